/- Texts of this proof, joined: AbR, C4, AbS, SO, C3, Y28, R19, C8, C9. -/
import Derived.Test.YtagphggcdmjlpaaKCarryGoes4
import Derived.Maps.RangeRun
import Derived.Shelf.Sort.Plain
import Derived.Test.YtagphggcdmjlpaaProg
import Derived.Shelf.Slices.In.SortNone
set_option linter.unusedSimpArgs false
set_option linter.unusedVariables false
set_option maxHeartbeats 1000000
/- A range over a map of one's own, whatever the order: the keys, each once. No program is named here. -/
namespace Go.Ab
open Go.ChangeMaps (setBlock)

theorem alist_cutW {P : Program} {nt : Nat} {A : Oper → St → (D → St → Prop) → Prop} (hA : ∀ o st K, A o st K → OpS P nt o st K) {ops : Array Oper} (l2 : List Oper) (X : St → Prop) (T : Act → World → Prop) {M : En} {H0 : HV} {w0 : World}
    (hX : ∀ s a w, X s → Is M H0 w0 nt s a w → wpList P ops (fun e a' w' => e = .normal ∧ T a' w') l2 a w) : ∀ (l : List Oper) (st : St), alist A nt ops l st X → ∀ (a : Act) (w : World), Is M H0 w0 nt st a w →
      wpList P ops (fun e a' w' => e = .normal ∧ T a' w') (l ++ l2) a w
  | [], st, h => fun a w hi => hX st a w h hi
  | o :: rest, st, h => by
    intro a w hi
    have goOn : ∀ st', dstOk nt o.dst → ∀ v d H loc w', alist A nt ops rest (st'.put o.dst d) X → Rel M H0 w0 nt H loc w' st' a → V H loc st'.ob v d →
        wpList P ops (fun e a' w' => e = .normal ∧ T a' w') (rest ++ l2) (a.put o.dst v) w' := fun st' hd v d H loc w' hk r hv =>
      alist_cutW hA l2 X T hX rest _ hk _ w' ⟨H, loc, r.put hd hv⟩
    have run : dstOk nt o.dst → (A o st fun d st' => alist A nt ops rest (st'.put o.dst d) X) →
        o.wp P a w (wpList P ops (fun e a' w' => e = .normal ∧ T a' w') (rest ++ l2)) (fun e a' w' => e = .normal ∧ T a' w') := fun hd ha =>
      hA _ _ _ ha M H0 w0 w a hi _ _ fun d st' v w' H loc hk r hv => goOn st' hd v d H loc w' hk r hv
    have skip : dstOk nt o.dst → alist A nt ops rest (st.put o.dst (.p (.lit undef))) X →
        wpList P ops (fun e a' w' => e = .normal ∧ T a' w') (rest ++ l2) (a.put o.dst undef) w := fun hd ha => by
      obtain ⟨H, loc, r⟩ := hi
      exact goOn st hd undef _ H loc w ha r (.p _ _ (.lit _))
    obtain ⟨H, loc, r⟩ := hi
    unfold alist at h
    rw [List.cons_append]
    unfold wpList
    cases hg : o.guard with
    | none =>
      rw [hg] at h
      rw [if_pos (by simp [Region.wanted, hg])]
      exact .inl (run h.1 h.2)
    | some jw =>
      obtain ⟨j, want⟩ := jw
      rw [hg] at h
      dsimp only at h
      split at h
      · rename_i b hb
        have hy := yielded_of r hb
        dsimp only at hy
        simp only [Region.wanted, hg, hy]
        by_cases e : b = want
        · subst e; simp only [beq_self_eq_true, if_true]; exact .inl (run h.1 (h.2.1 rfl))
        · have e' : b = !want := by cases b <;> cases want <;> simp_all
          have : (some b == some want) = false := by subst e'; cases want <;> rfl
          rw [this]
          exact skip h.1 (h.2.2 e')
      · rename_i vs hb
        have hy := yielded_of r hb
        dsimp only at hy
        simp only [Region.wanted, hg, hy]
        exact skip h.1 h.2
      · exact h.elim

section
variable {P : Program} {nt : Nat}

/-- The blocks that a state's objects lie in. -/
def Blk (loc : Nat → Loc) (ob : List Ob) (b : Nat) : Prop := ∃ (i : Nat) (o : Ob), ob[i]? = some o ∧ o.live = true ∧ (loc i).r = true ∧ (loc i).b = b

theorem Rel.n0_le {M : En} {H0 : HV} {w0 : World} {H : HV} {loc : Nat → Loc} {w : World} {st : St} {a : Act} (r : Rel M H0 w0 nt H loc w st a) : ∀ k, k < st.n0 → ∃ o o', M.ob[k]? = some o ∧ st.ob[k]? = some o' ∧ (o' = .dead ∨ (o.sameShape o' ∧ loc k = M.loc k)) := fun k hk => by
  have hkl : k < M.ob.length := by rw [r.n0]; exact hk
  have h1 : M.ob[k]? = some (M.ob[k]'hkl) := List.getElem?_eq_getElem hkl
  rcases r.ent k _ h1 with h2 | ⟨o', h2, h3, h4⟩
  · exact ⟨_, _, h1, h2, .inl rfl⟩
  · exact ⟨_, _, h1, h2, .inr ⟨h3, h4⟩⟩

/-- The same execution, told as if the call had begun here. -/
theorem Rel.here {M : En} {H0 : HV} {w0 : World} {H : HV} {loc : Nat → Loc} {w : World} {st : St} {a : Act} (r : Rel M H0 w0 nt H loc w st a) : Rel ⟨Blk loc st.ob, st.ob.take st.n0, loc⟩ H w nt H loc w st a := by
  have hle : st.n0 ≤ st.ob.length := by
    rcases Nat.lt_or_ge st.ob.length st.n0 with h | h
    · obtain ⟨_, _, _, h2, _⟩ := r.n0_le st.ob.length h
      rw [List.getElem?_eq_none (Nat.le_refl _)] at h2
      cases h2
    · exact h
  refine ⟨r.sr, r.tm, r.sz, r.df, Grows.refl _ _ _, fun i o ho hl hr => .inl ⟨i, o, ho, hl, hr, rfl⟩, by simp; omega, fun k o hk => ?_⟩
  rw [List.getElem?_take] at hk
  split at hk
  · rename_i hlt
    obtain ⟨o1, o2, h1, h2, h3⟩ := r.n0_le k hlt
    rw [h2] at hk
    cases hk
    rcases h3 with rfl | ⟨h3, _⟩
    · exact .inl h2
    · refine .inr ⟨_, h2, Ob.sameShape_refl _ fun e => ?_, rfl⟩
      subst e
      cases o1 <;> exact h3
  · cases hk

theorem shape_dead {o : Ob} (h : Ob.dead.sameShape o) : o = .dead := by
  cases o <;> first | rfl | exact h.elim

/-- And back. -/
theorem Rel.back {M : En} {H0 : HV} {w0 : World} {H H' : HV} {loc loc' : Nat → Loc} {w w' : World} {st st' : St} {a a' : Act} (r : Rel M H0 w0 nt H loc w st a) (r' : Rel ⟨Blk loc st.ob, st.ob.take st.n0, loc⟩ H w nt H' loc' w' st' a') : Rel M H0 w0 nt H' loc' w' st' a' := by
  have hb : ∀ b, Blk loc st.ob b → M.M b ∨ w0.heap.size ≤ b := fun b ⟨i, o, h1, h2, h3, h4⟩ => h4 ▸ r.own i o h1 h2 h3
  have hle : st.n0 ≤ st.ob.length := by
    rcases Nat.lt_or_ge st.ob.length st.n0 with h | h
    · obtain ⟨_, _, _, h2, _⟩ := r.n0_le st.ob.length h
      rw [List.getElem?_eq_none (Nat.le_refl _)] at h2
      cases h2
    · exact h
  have hn : st'.n0 = st.n0 := by have := r'.n0; simp at this; omega
  refine ⟨r'.sr, r'.tm, r'.sz, r'.df, r.gr.trans r'.gr hb, fun i o ho hl hr => ?_, by rw [hn]; exact r.n0, fun k o hk => ?_⟩
  · rcases r'.own i o ho hl hr with h | h
    · exact hb _ h
    · exact .inr (Nat.le_trans r.gr.size h)
  · have hk0 : k < st.n0 := by
      rw [← r.n0]
      rcases Nat.lt_or_ge k M.ob.length with h' | h'
      · exact h'
      · simp [List.getElem?_eq_none h'] at hk
    have ht : ∀ x, st.ob[k]? = some x → (st.ob.take st.n0)[k]? = some x := fun x hx => by rw [List.getElem?_take, if_pos hk0]; exact hx
    rcases r.ent k o hk with h1 | ⟨o1, h1, h2, h3⟩
    · rcases r'.ent k _ (ht _ h1) with h4 | ⟨o2, h4, h5, h6⟩
      · exact .inl h4
      · exact .inl (by rw [h4, shape_dead h5])
    · rcases r'.ent k _ (ht _ h1) with h4 | ⟨o2, h4, h5, h6⟩
      · exact .inl h4
      · exact .inr ⟨o2, h4, Ob.sameShape_trans h2 h5, h6.trans h3⟩

/-- Temporaries are forgotten. -/
theorem Rel.keepTs {M : En} {H0 : HV} {w0 : World} {H : HV} {loc : Nat → Loc} {w : World} {st : St} {a : Act} (r : Rel M H0 w0 nt H loc w st a) (ts : List Nat) : Rel M H0 w0 nt H loc w ⟨ofL (ts.map fun t => (t, st.tm t)), st.ob, st.n0⟩ a := by
  refine ⟨r.sr, fun t => ?_, r.sz, r.df, r.gr, r.own, r.n0, r.ent⟩
  have e : ofL (ts.map fun t => (t, st.tm t)) t = keepTm ts st.tm t := rfl
  show V H loc st.ob _ (ofL (ts.map fun t => (t, st.tm t)) t)
  rw [e]
  rcases keepTm_is ts st.tm t with h | h
  · rw [h]; exact r.tm t
  · rw [h]; exact .none _

/-- A block turns in which nothing lies that is known. -/
theorem Rel.other {M : En} {H0 : HV} {w0 : World} {H : HV} {loc : Nat → Loc} {w w' : World} {st : St} {a : Act} (r : Rel M H0 w0 nt H loc w st a) {b0 : Nat} (h1 : w'.os = w.os) (h2 : w'.tape = w.tape) (h3 : w'.output = w.output)
    (h4 : w'.heap.size = w.heap.size) (h5 : ∀ b, b ≠ b0 → w'.heap[b]? = w.heap[b]?) (h6 : ¬ Blk loc st.ob b0) (h7 : H b0 = none) (h8 : w0.heap.size ≤ b0) : Rel M H0 w0 nt H loc w' st a := by
  refine ⟨⟨fun b c hb => ?_, fun i o ho => ?_, r.sr.apart, r.sr.inj⟩, r.tm, r.sz, r.df, ⟨h1.trans r.gr.os, h2.trans r.gr.tape, h3.trans r.gr.output, by rw [h4]; exact r.gr.size, fun b hb hm => ?_, r.gr.more, r.gr.new⟩, r.own, r.n0, r.ent⟩
  · rw [h5 b (fun e => by subst e; rw [h7] at hb; cases hb)]
    exact r.sr.heap b c hb
  · cases hl : o.live with
    | false => cases o <;> first | trivial | cases hl
    | true => exact Ob.holds_turn (.refl H) (Turns.refl _ _) (fun hr => h5 _ fun e => h6 ⟨i, o, ho, hl, hr, e⟩) (r.sr.obj i o ho)
  · rw [h5 b (by omega)]
    exact r.gr.kept b hb hm

theorem blk_cut {loc : Nat → Loc} {ob : List Ob} {ids : List Nat} {b : Nat} (h : Blk (fun k => loc (ids.getD k 0)) (newObs ob ids) b) : Blk loc ob b := by
  obtain ⟨k, o, h1, h2, h3, h4⟩ := h
  obtain ⟨i, o', h5, rfl, h6⟩ := newObs_of h1
  have hl : loc (ids.getD k 0) = loc i := by simp [List.getD_eq_getElem?_getD, h5]
  dsimp only at h3 h4
  rw [hl] at h3 h4
  rw [renOb_live] at h2
  rcases h6 with h6 | rfl
  · exact ⟨i, o', h6, h2, h3, h4⟩
  · cases h2

/-- A range over a map: the body goes for each key, in any order; the map is let go. -/
theorem awp_range_map {Q : Exit → St → Prop} {st : St} {i1 i2 i4 bid b1 t0 t2 t3 t4 t5 t6 t7 n0 : Nat} {ty k e : TypeId} {l : List Oper} {o2 o3 o4 o5 o6 o7 : Oper} {y : Code} (n : Nat) (ts0 : List Nat)
    (hl : l.drop n = [o2]) (h2 : o2.op = .range ty (.tmp t0)) (d2 : o2.dst = some t2) (g2 : o2.guard = none)
    (h3 : o3.op = .next (.tmp t2) false) (d3 : o3.dst = some t3) (g3 : o3.guard = none) (h4 : o4.op = .extract (.tmp t3) 0) (d4 : o4.dst = some t4) (g4 : o4.guard = none)
    (h5 : o5.op = .entry (.tmp t2)) (d5 : o5.dst = some t5) (g5 : o5.guard = none) (h6 : o6.op = .extract (.tmp t5) 0) (d6 : o6.dst = some t6) (g6 : o6.guard = none) (h7 : o7.op = .assign (.tmp t6)) (d7 : o7.dst = some t7) (g7 : o7.guard = none)
    (n2 : t2 < nt) (n3 : t3 < nt) (n4 : t4 < nt) (n5 : t5 < nt) (n6 : t6 < nt) (n7 : t7 < nt) (n23 : t2 ≠ t3) (n24 : t2 ≠ t4) (hu : P.underlying ty = some (.map k e))
    (h : alist (aop P) nt l.toArray (l.take n) st fun s => ∃ (l0 : List (Nat × D)) (ob : List Ob) (id : Nat) (es : List (Value × PV)) (I : Value → (Value → Prop) → List (Nat × D) → List Ob → Prop),
      s = ⟨ofL l0, ob, n0⟩ ∧ ofL l0 t0 = .mp id ∧ ob[id]? = some (.map es) ∧ (∀ v, I v (fun _ => True) (ts0.map fun t => (t, ofL ((t2, .p (.lit v)) :: l0) t)) (ob.set id .dead ++ [.dead])) ∧ (∀ v todo l' ob', I v todo l' ob' → ofL l' t2 = .p (.lit v)) ∧
      (∀ v todo l' ob', I v todo l' ob' → (∀ kx, kx ∈ es → ¬ todo kx.1) → Q .normal ⟨ofL ((t4, bD false) :: (t3, .none) :: l'), ob', n0⟩) ∧
      (∀ v todo l' ob' kx, I v todo l' ob' → kx ∈ es → AWp P nt y (inBlock b1 (andThen (fun s' => ∃ ts ids l'' ob'', ids.Nodup ∧ (∀ k, k < s'.n0 → ids[k]? = some k) ∧ s'.cut ts ids = ⟨ofL l'', ob'', n0⟩ ∧ I v (fun q => todo q ∧ q ≠ kx.1) l'' ob'') (inBlock bid Q)))
        ⟨ofL ((t7, .p (.lit kx.1)) :: (t6, .p (.lit kx.1)) :: (t5, .none) :: (t4, bD true) :: (t3, .none) :: l'), ob', n0⟩)) :
    AWp P nt (.seq (.region i1 l.toArray false) (.block bid (.loop (.seq (.region i2 #[o3, o4] false) (.seq (.cond (.tmp t4) .skip (.exit bid)) (.block b1 (.seq (.region i4 #[o5, o6, o7] false) y))))))) Q st := by
  intro M H0 w0 w a hi
  have hset : ∀ (b : Act) (t : Nat) (v : Value), t < nt → b.tmps.size = nt → (b.put (some t) v).eval (.tmp t) = v := fun b t v ht hs => by
    show ((b.tmps.setIfInBounds t v).getD t undef) = v
    rw [Array.getD_eq_getD_getElem?, Array.getElem?_setIfInBounds]
    simp [hs, ht]
  have hsz : ∀ (b : Act) (t : Nat) (v : Value), (b.put (some t) v).tmps.size = b.tmps.size := fun b t v => by
    show (b.tmps.setIfInBounds t v).size = _
    simp
  have hlit : ∀ {H : HV} {loc : Nat → Loc} {w : World} {s : St} {b : Act} {t : Nat} {v : Value}, Rel M H0 w0 nt H loc w s b → s.tm t = .p (.lit v) → b.eval (.tmp t) = v := fun {H loc w s b t v} r hv => by
    have := r.tm t
    rw [hv] at this
    exact this.lit_inv
  -- what stands behind the region: a state, an iterator
  let T : Act → World → Prop := fun a' w' => ∃ (l0 : List (Nat × D)) (ob : List Ob) (id : Nat) (es : List (Value × PV)) (I : Value → (Value → Prop) → List (Nat × D) → List Ob → Prop) (rI bm clock : Nat) (arr : Array MapEntry) (H : HV) (loc : Nat → Loc),
      (∀ v todo l' ob', I v todo l' ob' → ofL l' t2 = .p (.lit v)) ∧
      (∀ v todo l' ob', I v todo l' ob' → (∀ kx, kx ∈ es → ¬ todo kx.1) → Q .normal ⟨ofL ((t4, bD false) :: (t3, .none) :: l'), ob', n0⟩) ∧
      (∀ v todo l' ob' kx, I v todo l' ob' → kx ∈ es → AWp P nt y (inBlock b1 (andThen (fun s' => ∃ ts ids l'' ob'', ids.Nodup ∧ (∀ k, k < s'.n0 → ids[k]? = some k) ∧ s'.cut ts ids = ⟨ofL l'', ob'', n0⟩ ∧ I v (fun q => todo q ∧ q ≠ kx.1) l'' ob'') (inBlock bid Q)))
        ⟨ofL ((t7, .p (.lit kx.1)) :: (t6, .p (.lit kx.1)) :: (t5, .none) :: (t4, bD true) :: (t3, .none) :: l'), ob', n0⟩) ∧
      I (.pointer (some ⟨rI, 0, none⟩)) (fun _ => True) l0 ob ∧ Rel M H0 w0 nt H loc w' ⟨ofL l0, ob, n0⟩ a' ∧ ¬ Blk loc ob rI ∧ ¬ Blk loc ob bm ∧ H bm = none ∧ w0.heap.size ≤ rI ∧ w'.heap[rI]? = some (.mapIter (some bm) clock #[] clock) ∧
      w'.heap[bm]? = some (.map arr clock) ∧ Born arr clock ∧ (∀ x, x ∈ arr.toList → ∃ p, (x.key, p) ∈ es) ∧ ∀ kx, kx ∈ es → ∃ x, x ∈ arr.toList ∧ x.key = kx.1
  have main : ∀ a' w', T a' w' → (Code.block bid (.loop (.seq (.region i2 #[o3, o4] false) (.seq (.cond (.tmp t4) .skip (.exit bid)) (.block b1 (.seq (.region i4 #[o5, o6, o7] false) y)))))).wp P (fun e a' w' => ∃ st', Q e st' ∧ Is M H0 w0 nt st' a' w') a' w' := by
    rintro a1 w1 ⟨l0, ob, id, es, I, rI, bm, clock, arr, H1, loc1, hI2, hIe, hIr, hI0, r1, hb1, hb2, hHb, hrI, hit, hmp, hborn, hk1, hk2⟩
    let v2 : Value := .pointer (some ⟨rI, 0, none⟩)
    have hne : rI ≠ bm := fun e => by rw [e, hmp] at hit; cases hit
    let J : Act → World → Prop := fun a' w' => ∃ (todo : Value → Prop) (l' : List (Nat × D)) (ob' : List Ob) (H : HV) (loc : Nat → Loc) (seen : Array Nat) (c0 : Nat), I v2 todo l' ob' ∧ Rel M H0 w0 nt H loc w' ⟨ofL l', ob', n0⟩ a' ∧ ¬ Blk loc ob' rI ∧ ¬ Blk loc ob' bm ∧ H bm = none ∧
      w'.heap[rI]? = some (.mapIter (some bm) clock seen c0) ∧ w'.heap[bm]? = some (.map arr clock) ∧ clock ≤ c0 ∧ ∀ x, x ∈ arr.toList → todo x.key → seen.contains x.born = false
    refine wp_block (wp_loop J (fun _ w' => (leftOf arr (w'.iterSeen rI)).size) ⟨fun _ => True, l0, ob, H1, loc1, #[], clock, hI0, r1, hb1, hb2, hHb, hit, hmp, Nat.le_refl _, fun x _ _ => by simp⟩ ?_)
    rintro a' w' ⟨todo, l', ob', H, loc, seen, c0, hI, r, hB1, hB2, hHm, hr, hm, hsc, htd⟩
    have hHr : H rI = none := by
      cases hx : H rI with
      | none => rfl
      | some c =>
        obtain ⟨c', e', f, h1, _⟩ := r.sr.heap rI c hx
        rw [hr] at h1; cases h1
    have hv2 : a'.eval (.tmp t2) = v2 := hlit r (hI2 _ _ _ _ hI)
    refine wp_seq (wp_region_lit (l := [o3, o4]) ?_)
    unfold wpList
    rw [if_pos (wants g3)]
    refine .inl ?_
    rcases run_next_at (P := P) w' o3.type rI bm clock c0 seen arr clock hr hm hborn.1 hsc with ⟨hz, e1⟩ | ⟨x, hx, w1, hw1, e1⟩
    · have x3 : (execOp a'.eval o3).run P w' = .ok (.value (.tuple #[.bool false])) w' := by
        simp [execOp, h3, hv2, v2, e1]
      unfold Oper.wp
      rw [x3, Oper.upon_value, d3]
      unfold wpList
      rw [if_pos (wants g4)]
      refine .inl ?_
      have r3 := r.put (dst := some t3) n3 (v := .tuple #[.bool false]) (d := .none) (.none _)
      have x4 : (execOp (a'.put (some t3) (.tuple #[.bool false])).eval o4).run P w' = .ok (.value (.bool false)) w' := by
        have e1 : (a'.put (some t3) (.tuple #[.bool false])).eval (.tmp t3) = .tuple #[.bool false] := hset a' t3 _ n3 r.sz
        simp [execOp, h4, e1, Instr.extract]
      unfold Oper.wp
      rw [x4, Oper.upon_value, d4]
      unfold wpList
      refine wp_seq ?_
      have r4 := r3.put (dst := some t4) n4 (v := .bool false) (d := bD false) (.p _ _ (.lit _))
      refine wp_cond_split (t := false) (hset _ t4 _ n4 r3.sz) (fun h => by cases h) (fun _ => wp_exit ?_)
      simp only [Exit.then, Exit.inBlock, if_true]
      refine ⟨_, hIe _ _ _ _ hI fun kx hkx htodo => ?_, H, loc, r4⟩
      obtain ⟨x, hx1, hx2⟩ := hk2 kx hkx
      have := htd x hx1 (by rw [hx2]; exact htodo)
      rw [all_seen arr seen hz x hx1] at this
      cases this
    · have hxm := mem_left hx
      obtain ⟨px, hpx⟩ := hk1 x hxm.1
      have hWr : ∀ (o' : Obj), (setBlock w1 rI o').heap[rI]? = some o' ∧ (∀ b, b ≠ rI → (setBlock w1 rI o').heap[b]? = w'.heap[b]?) ∧ (setBlock w1 rI o').heap.size = w'.heap.size ∧ (setBlock w1 rI o').os = w'.os ∧ (setBlock w1 rI o').tape = w'.tape ∧ (setBlock w1 rI o').output = w'.output := fun o' => by
        have hlt : rI < w1.heap.size := by
          have : w1.heap = w'.heap := by rcases hw1 with rfl | rfl <;> rfl
          rw [this]
          rcases Nat.lt_or_ge rI w'.heap.size with h' | h'
          · exact h'
          · simp [Array.getElem?_eq_none h'] at hr
        have hh : w1.heap = w'.heap := by rcases hw1 with rfl | rfl <;> rfl
        refine ⟨?_, fun b hb => ?_, ?_, ?_, ?_, ?_⟩
        · simp [setBlock, hlt]
        · simp only [setBlock, ← hh]
          rw [Array.getElem?_setIfInBounds, if_neg (fun e => hb e.symm)]
        · simp [setBlock, hh]
        · rcases hw1 with rfl | rfl <;> rfl
        · rcases hw1 with rfl | rfl <;> rfl
        · rcases hw1 with rfl | rfl <;> rfl
      obtain ⟨q1, q2, q3, q4, q5, q6⟩ := hWr (.mapIter (some bm) clock (seen.push x.born) clock)
      generalize setBlock w1 rI (.mapIter (some bm) clock (seen.push x.born) clock) = W at e1 q1 q2 q3 q4 q5 q6
      have rW := r.other q4 q5 q6 q3 q2 hB1 hHr hrI
      have x3 : (execOp a'.eval o3).run P w' = .ok (.value (.tuple #[.bool true, x.key, x.val])) W := by
        simp [execOp, h3, hv2, v2, e1]
      unfold Oper.wp
      rw [x3, Oper.upon_value, d3]
      unfold wpList
      rw [if_pos (wants g4)]
      refine .inl ?_
      have r3 := rW.put (dst := some t3) n3 (v := .tuple #[.bool true, x.key, x.val]) (d := .none) (.none _)
      have x4 : (execOp (a'.put (some t3) (.tuple #[.bool true, x.key, x.val])).eval o4).run P W = .ok (.value (.bool true)) W := by
        have e1 : (a'.put (some t3) (.tuple #[.bool true, x.key, x.val])).eval (.tmp t3) = .tuple #[.bool true, x.key, x.val] := hset a' t3 _ n3 r.sz
        simp [execOp, h4, e1, Instr.extract]
      unfold Oper.wp
      rw [x4, Oper.upon_value, d4]
      unfold wpList
      refine wp_seq ?_
      have r4 := r3.put (dst := some t4) n4 (v := .bool true) (d := bD true) (.p _ _ (.lit _))
      refine wp_cond_split (t := true) (hset _ t4 _ n4 r3.sz) (fun _ => wp_skip ?_) (fun h => by cases h)
      refine wp_block (wp_seq (wp_region_lit (l := [o5, o6, o7]) ?_))
      have hv4 : ((a'.put (some t3) (.tuple #[.bool true, x.key, x.val])).put (some t4) (.bool true)).eval (.tmp t2) = v2 := by
        refine hlit r4 ?_
        show (if t4 = t2 then _ else (if t3 = t2 then _ else ofL l' t2)) = _
        rw [if_neg (fun e => n24 e.symm), if_neg (fun e => n23 e.symm)]
        exact hI2 _ _ _ _ hI
      generalize (a'.put (some t3) (.tuple #[.bool true, x.key, x.val])).put (some t4) (.bool true) = a4 at r4 hv4
      have hWm : W.heap[bm]? = some (.map arr clock) := by rw [q2 bm (fun e => hne e.symm)]; exact hm
      unfold wpList
      rw [if_pos (wants g5)]
      refine .inl ?_
      have x5 : (execOp a4.eval o5).run P W = .ok (.value (.tuple #[x.key, x.val])) W := by
        have := run_entry_at (P := P) W rI bm clock seen arr clock x q1 hWm hxm.1 hborn.2
        simp [execOp, h5, hv4, v2, this]
      unfold Oper.wp
      rw [x5, Oper.upon_value, d5]
      unfold wpList
      rw [if_pos (wants g6)]
      refine .inl ?_
      have r5 := r4.put (dst := some t5) n5 (v := .tuple #[x.key, x.val]) (d := .none) (.none _)
      have x6 : (execOp (a4.put (some t5) (.tuple #[x.key, x.val])).eval o6).run P W = .ok (.value x.key) W := by
        have e1 : (a4.put (some t5) (.tuple #[x.key, x.val])).eval (.tmp t5) = .tuple #[x.key, x.val] := hset a4 t5 _ n5 r4.sz
        simp [execOp, h6, e1, Instr.extract]
      unfold Oper.wp
      rw [x6, Oper.upon_value, d6]
      unfold wpList
      rw [if_pos (wants g7)]
      refine .inl ?_
      have r6 := r5.put (dst := some t6) n6 (v := x.key) (d := .p (.lit x.key)) (.p _ _ (.lit _))
      generalize hA5 : a4.put (some t5) (.tuple #[x.key, x.val]) = a5 at r5 r6
      have x7 : (execOp (a5.put (some t6) x.key).eval o7).run P W = .ok (.value x.key) W := by
        have e1 : (a5.put (some t6) x.key).eval (.tmp t6) = x.key := hset a5 t6 _ n6 r5.sz
        simp [execOp, h7, e1]
      unfold Oper.wp
      rw [x7, Oper.upon_value, d7]
      unfold wpList
      have r7 := r6.put (dst := some t7) n7 (v := x.key) (d := .p (.lit x.key)) (.p _ _ (.lit _))
      generalize (a5.put (some t6) x.key).put (some t7) x.key = a7 at r7
      have hrun := hIr v2 todo l' ob' (x.key, px) hI hpx
      refine wp_mono (hrun _ _ _ W a7 ⟨H, loc, Rel.here r7⟩) ?_
      rintro ee a8 w8 ⟨st8, hq, H8, loc8, r8⟩
      have rr := Rel.back r7 r8
      have hrW : rI < W.heap.size := by
        rcases Nat.lt_or_ge rI W.heap.size with h' | h'
        · exact h'
        · simp [Array.getElem?_eq_none h'] at q1
      have hmW : bm < W.heap.size := by
        rcases Nat.lt_or_ge bm W.heap.size with h' | h'
        · exact h'
        · simp [Array.getElem?_eq_none h'] at hWm
      have keep : ∀ b, b < W.heap.size → ¬ Blk loc ob' b → w8.heap[b]? = W.heap[b]? ∧ ¬ Blk loc8 st8.ob b := fun b hb hnb => by
        refine ⟨r8.gr.kept b hb hnb, ?_⟩
        rintro ⟨i, o, g1, g2, g3, g4⟩
        rcases r8.own i o g1 g2 g3 with g | g
        · rw [g4] at g; exact hnb g
        · omega
      have k1 := keep rI hrW hB1
      have k2 := keep bm hmW hB2
      have hmore : (leftOf arr (seen.push x.born)).size < (leftOf arr seen).size := left_shrinks arr seen x hx
      have hs1 : w'.iterSeen rI = seen := by unfold World.iterSeen; rw [hr]
      have hs8 : w8.iterSeen rI = seen.push x.born := by unfold World.iterSeen; rw [k1.1, q1]
      have again : (∃ ts ids l'' ob'', ids.Nodup ∧ (∀ k, k < st8.n0 → ids[k]? = some k) ∧ st8.cut ts ids = ⟨ofL l'', ob'', n0⟩ ∧ I v2 (fun q => todo q ∧ q ≠ x.key) l'' ob'') → J a8 w8 ∧ (leftOf arr (w8.iterSeen rI)).size < (leftOf arr (w'.iterSeen rI)).size := by
        rintro ⟨ts, ids, l'', ob'', hd, hp, hcut, hI'⟩
        refine ⟨⟨_, l'', ob'', H8, fun k => loc8 (ids.getD k 0), seen.push x.born, clock, hI', ?_, ?_, ?_, ?_, by rw [k1.1]; exact q1, by rw [k2.1]; exact hWm, Nat.le_refl _, fun z hz hzt => ?_⟩, by rw [hs1, hs8]; exact hmore⟩
        · have hob : ob'' = newObs st8.ob ids := by have := congrArg St.ob hcut; exact this.symm
          obtain ⟨Hc, locc, rc⟩ := Is.cut ⟨H8, loc8, rr⟩ ts hd hp
          have := rr
          rw [← hcut]
          refine ⟨rr.sr.ren hd, fun t => ?_, rr.sz, rr.df, rr.gr, fun k o ho hv hr => ?_, rr.n0, fun k o ho => ?_⟩
          · have e : (st8.cut ts ids).tm t = keepTm ts (fun t => D.map (ren1 ids) (st8.tm t)) t := rfl
            rw [e]
            rcases keepTm_is ts (fun t => D.map (ren1 ids) (st8.tm t)) t with h | h
            · rw [h]; exact (rr.tm t).map (leafy_ren H8 loc8 st8.ob ids)
            · rw [h]; exact .none _
          · obtain ⟨i, o', hi, rfl, hx⟩ := newObs_of ho
            rw [renOb_live] at hv
            have hl : loc8 (ids.getD k 0) = loc8 i := by simp [List.getD_eq_getElem?_getD, hi]
            have hr2 : (loc8 (ids.getD k 0)).r = true := hr
            show M.M (loc8 (ids.getD k 0)).b ∨ _ ≤ (loc8 (ids.getD k 0)).b
            rw [hl] at hr2 ⊢
            rcases hx with hx | rfl
            · exact rr.own i o' hx hv hr2
            · cases hv
          · have hk : k < st8.n0 := by
              rw [← rr.n0]
              rcases Nat.lt_or_ge k M.ob.length with h' | h'
              · exact h'
              · simp [List.getElem?_eq_none h'] at ho
            have hk2 := hp k hk
            have hl : loc8 (ids.getD k 0) = loc8 k := by simp [List.getD_eq_getElem?_getD, hk2]
            rcases rr.ent k o ho with h1 | ⟨o', h1, h2, h3⟩
            · exact .inl (newObs_get hk2 h1)
            · refine .inr ⟨_, newObs_get hk2 h1, ?_, ?_⟩
              · cases o' <;> cases o <;> simp_all [Ob.sameShape, renOb, D.mapL_eq]
              · show loc8 (ids.getD k 0) = _
                rw [hl]; exact h3
        · have hob : ob'' = newObs st8.ob ids := by have := congrArg St.ob hcut; exact this.symm
          rw [hob]; exact fun h => k1.2 (blk_cut h)
        · have hob : ob'' = newObs st8.ob ids := by have := congrArg St.ob hcut; exact this.symm
          rw [hob]; exact fun h => k2.2 (blk_cut h)
        · cases hx8 : H8 bm with
          | none => rfl
          | some c =>
            obtain ⟨c', e', f, h1, _⟩ := rr.sr.heap bm c hx8
            rw [k2.1, hWm] at h1; cases h1
        · rw [contains_push, htd z hz hzt.1, Bool.false_or]
          cases hzb : z.born == x.born with
          | false => rfl
          | true =>
            have := born_inj hborn.2 hz hxm.1 (beq_iff_eq.1 hzb)
            exact absurd (congrArg MapEntry.key this) hzt.2
      cases ee with
      | normal => exact again hq
      | exit id' =>
        simp only [inBlock] at hq
        simp only [Exit.inBlock]
        split <;> rename_i hid
        · rw [if_pos hid] at hq; exact again hq
        · rw [if_neg hid] at hq
          simp only [Exit.then, Exit.inBlock]
          simp only [andThen, inBlock] at hq
          split <;> rename_i hid2
          · rw [if_pos hid2] at hq; exact ⟨_, hq, H8, loc8, rr⟩
          · rw [if_neg hid2] at hq; exact ⟨_, hq, H8, loc8, rr⟩
      | _ => exact ⟨_, hq, H8, loc8, rr⟩
  refine wp_seq (wp_region_lit ?_)
  have hspl : l = l.take n ++ [o2] := by rw [← hl, List.take_append_drop]
  have hfin : wpList P l.toArray (fun e a' w' => e = .normal ∧ T a' w') (l.take n ++ [o2]) a w := by
    refine alist_cutW (fun o st K h => aop_sound h) [o2] _ T ?_ (l.take n) st h a w hi
    rintro s a' w' ⟨l0, ob, id, es, I, rfl, ht0, hob, hI0, hI2, hIe, hIr⟩ ⟨H, loc, r⟩
    have hmv := r.tm t0
    dsimp only at hmv
    rw [ht0] at hmv
    have hev : a'.eval (.tmp t0) = .map (some (loc id).b) := by
      show a'.tmps.getD t0 undef = _
      generalize a'.tmps.getD t0 undef = v at hmv
      cases hmv with
      | mp _ es ho => rfl
      | mpGone _ _ ho => rw [hob] at ho; cases ho
    obtain ⟨hlr, arr, clock, hw, hrel, hborn⟩ := r.map_at hob
    unfold wpList
    rw [if_pos (wants g2)]
    refine .inl ?_
    have x2 : (execOp a'.eval o2).run P w' = .ok (.value (.pointer (some ⟨w'.heap.size, 0, none⟩))) (w'.alloc (.mapIter (some (loc id).b) clock #[] clock)) := by
      have e2 := run_range_map (P := P) w' ty k e (loc id).b arr clock hu hw
      simp [execOp, h2, hev, e2]
    unfold Oper.wp
    rw [x2, Oper.upon_value, d2]
    unfold wpList
    refine ⟨rfl, ?_⟩
    have rk := r.setOb (o' := .dead) (w' := w') hob rfl hlr trivial (fun _ _ => rfl) rfl rfl rfl rfl trivial
    have rp := rk.push (.mapIter (some (loc id).b) clock #[] clock) .dead 0 0 trivial
    have rq := rp.put (dst := some t2) n2 (v := .pointer (some ⟨w'.heap.size, 0, none⟩)) (d := .p (.lit (.pointer (some ⟨w'.heap.size, 0, none⟩)))) (.p _ _ (.lit _))
    have rq := rq.keepTs ts0
    have hlt : (loc id).b < w'.heap.size := by
      rcases Nat.lt_or_ge (loc id).b w'.heap.size with h' | h'
      · exact h'
      · simp [Array.getElem?_eq_none h'] at hw
    have hidl : id < ob.length := by
      rcases Nat.lt_or_ge id ob.length with h' | h'
      · exact h'
      · simp [List.getElem?_eq_none h'] at hob
    have hblk : ∀ b, Blk (locPush loc (ob.set id .dead).length ⟨w'.heap.size, 0, 0, true⟩) (ob.set id .dead ++ [.dead]) b → b < w'.heap.size ∧ b ≠ (loc id).b := by
      rintro b ⟨i, o, g1, g2, g3, g4⟩
      have hil : i < (ob.set id .dead).length := by
        rcases Nat.lt_trichotomy i (ob.set id Ob.dead).length with hlt | heq | hgt
        · exact hlt
        · subst heq; rw [List.getElem?_append_right (Nat.le_refl _)] at g1; simp at g1; rw [← g1] at g2; cases g2
        · rw [List.getElem?_eq_none (by simp at hgt ⊢; omega)] at g1; cases g1
      have hle : locPush loc (ob.set id .dead).length ⟨w'.heap.size, 0, 0, true⟩ i = loc i := if_neg (by omega)
      rw [hle] at g3 g4
      rw [List.getElem?_append_left hil, List.getElem?_set] at g1
      split at g1
      · rename_i hid; subst hid; simp [hidl] at g1; rw [← g1] at g2; cases g2
      · rename_i hid
        have := r.sr.live_lt g1 g2 g3
        refine ⟨by rw [← g4]; exact this, fun e => hid ?_⟩
        exact (r.sr.inj i id o _ g1 hob g2 rfl g3 hlr (by rw [g4, e])).symm
    obtain ⟨m1, m2⟩ := hrel.to
    refine ⟨_, _, id, es, I, w'.heap.size, (loc id).b, clock, arr, H, _, hI2, hIe, hIr, hI0 _, rq, fun hb => by have := (hblk _ hb).1; omega, fun hb => (hblk _ hb).2 rfl, r.sr.apart id _ hob rfl hlr, r.gr.size, heap_alloc_new w' _, by rw [heap_alloc_old w' _ hlt]; exact hw, hborn, fun x hx => ?_, fun kx hkx => ?_⟩
    · obtain ⟨i, hi⟩ := List.mem_iff_getElem?.1 hx
      have hlt2 : i < es.length := by
        rw [← m1]
        rcases Nat.lt_or_ge i arr.toList.length with h' | h'
        · exact h'
        · simp [List.getElem?_eq_none h'] at hi
      obtain ⟨x', y1, y2, _⟩ := m2 i es[i].1 es[i].2 (List.getElem?_eq_getElem hlt2)
      rw [hi] at y1
      cases y1
      exact ⟨es[i].2, by rw [y2]; exact List.getElem_mem hlt2⟩
    · obtain ⟨i, hi⟩ := List.mem_iff_getElem?.1 hkx
      obtain ⟨x', y1, y2, _⟩ := m2 i kx.1 kx.2 hi
      exact ⟨x', List.mem_of_getElem? y1, y2⟩
  rw [← hspl] at hfin
  refine wpList_mono ?_ hfin
  rintro e a' w' ⟨rfl, hT⟩
  exact main a' w' hT
end
end Go.Ab

/- Reached and apart, of what was carried over: contracts. -/
namespace Go.Proofs.Ytagphggcdmjlpaa.P
open Go.Ab Go.Proofs.Ytagphggcdmjlpaa.T

/-- Words whose objects were carried over. -/
theorem ShrK.obj {g b : List Int} {mv : List (Int × Int)} {w0 w : Int} (hs : ShrK g b mv w0) (hk : KnownK mv w) (hi : (placeS w).2.1 = true) :
    ∃ (n : Nat) (o : Obj), (placeS w).1 = n ∧ atS g (placeS w).1 = (o, 0) ∧ o.parts.length ≤ 4000 ∧ (∀ p, p ∈ o.parts → KnownK mv p) ∧ ACallP Try.prog 61 [words g, iD n] (.tup [objD o, bD true]) := by
  obtain ⟨x, hx⟩ := hk.2 hi
  obtain ⟨t, q, o, _, _, t3, _, _, _, _, _, t9⟩ := hs.to hx
  obtain ⟨n, e1, e2, e3, e4, e5⟩ := obj_of hs.g4 hs.go t3
  exact ⟨n, o, e1, t3, (parts_mem hs.g4 hs.go t3).2, t9, objectAt g n o hs.g4 e3.1 e3.2.1 e2 e4 e5⟩


set_option maxRecDepth 100000 in
theorem reached (g b : List Int) (mv : List (Int × Int)) (w0 : Int) (hs : ShrK g b mv w0) :
    ACalls Try.prog 64 [words g, .ref 0 0 1, iD 0] [.row 1 [wrow w0]] (fun r obs' => ∃ S, r = .mp 1 ∧ obs' = [.row 1 [wrow w0], .map (embS S)] ∧ ∀ a, a ∈ S ↔ ReachK g w0 a) := by
  refine acallm_fn [6] Try.func64 rfl rfl Try.ntmps64 (by simp) (by simp) fun R hR => ?_
  (refine awp_reg_seq [0, 1, 2] fun K hK => ?_; (repeat' ((refine al_r rfl fun K' hK' => ?_); (repeat (simp only [go_sem, simprocAttr, bne_self_eq_false])); ((refine hK' _ _ ?_) <;> clear hK' K'))); all_goals (refine al_nil ?_; (simp only [go_sem, simprocAttr, bne_self_eq_false]); refine hK _ ?_; clear hK K))
  (refine awp_reg_seq [0, 1, 2, 7] fun K hK => ?_; (repeat' ((refine al_r rfl fun K' hK' => ?_); (repeat (simp only [go_sem, simprocAttr, bne_self_eq_false])); ((refine hK' _ _ ?_) <;> clear hK' K'))); all_goals (refine al_nil ?_; (simp only [go_sem, simprocAttr, bne_self_eq_false]); refine hK _ ?_; clear hK K))
  refine awp_seq_k fun K hK => ?_
  (refine awp_reg_seq [0, 2, 7, 8] fun K hK => ?_; (repeat' ((refine al_r rfl fun K' hK' => ?_); (repeat (first | (simp only [go_sem, simprocAttr, bne_self_eq_false]) | refine AAp.grow ?_)); ((first | refine hK' _ _ ?_ | refine ⟨?_, hK' _ _ ?_⟩) <;> clear hK' K' <;> (first | (show alist _ _ _ _ _ _; skip) | (simp; done))))); all_goals (refine al_nil ?_; (simp only [go_sem, simprocAttr, bne_self_eq_false]); refine hK _ ?_; clear hK K))
  refine awp_block ?_
  -- loop 0 head [0, 2, 7, 8]
  refine awp_loop_cut (fun m s => ∃ (T S : List Int) (junk : List (List PV)), RInv g w0 T S ∧ (∀ w, w ∈ T → KnownK mv w) ∧ m = (g.length + 1 - S.length) * 5000 + T.length ∧ T.length ≤ 1 + 4000 * S.length ∧ s = ⟨ofL [(0, words g), (2, iD 0), (7, .mp 1), (8, .ref 2 0 T.length)], [.row 1 [wrow w0], .map (embS S), .row 1 (T.map wrow ++ junk)], 1⟩) ⟨_, [w0], [], [], RInv.start g w0, (fun w hw => by rcases List.mem_singleton.1 hw with rfl; exact hs.kn), rfl, by simp, rfl⟩ ?_
  rintro m s ⟨T, S, junk, hi, hk, hm, hL, rfl⟩
  have hSb := hi.bound
  have hg4 := hs.g4
  refine awp_seq_k fun K hK => ?_
  (refine awp_reg_seq [0, 2, 7, 8, 19] fun K hK => ?_; (repeat' ((refine al_r rfl fun K' hK' => ?_); (repeat (simp only [go_sem, simprocAttr, bne_self_eq_false])); ((first | refine hK' _ _ ?_ | refine ⟨?_, hK' _ _ ?_⟩) <;> clear hK' K' <;> (first | (show alist _ _ _ _ _ _; skip) | (intro s hs; cases hs; done))))); all_goals (refine al_nil ?_; (simp only [go_sem, simprocAttr, bne_self_eq_false]); refine hK _ ?_; clear hK K))
  refine awp_if (decide ((T.length : Int) > 0)) rfl (fun hc => ?_) (fun hc => ?_)
  · refine awp_skip ?_
    refine hK _ ?_; clear hK K
    refine awp_block ?_
    obtain ⟨T', w, rfl⟩ : ∃ T' w, T = T' ++ [w] := by
      rcases List.eq_nil_or_concat T with h | ⟨T', w, h⟩
      · rw [h] at hc; simp at hc
      · exact ⟨T', w, by rw [h]; simp⟩
    clear hc
    have hkw : KnownK mv w := hk w (List.mem_append_right _ (List.mem_singleton.2 rfl))
    have hk' : ∀ x, x ∈ T' → KnownK mv x := fun x hx => hk x (List.mem_append_left _ hx)
    have hi' : RInv g w0 (w :: T') S := hi.mem fun x => by simp [or_comm]
    clear hi hk
    have h0 : (readS w).2.2 = 0 := hkw.1
    obtain ⟨tg, htg⟩ : ∃ tg, (readS w).1 = tg := ⟨_, rfl⟩
    obtain ⟨n, hn⟩ : ∃ n, (readS w).2.1 = n := ⟨_, rfl⟩
    have hrS : readS w = (tg, n, 0) := by rw [← htg, ← hn, ← h0]
    have hrd := tagReadS hrS
    have hTl : (T' ++ [w]).length = T'.length + 1 := by simp
    rw [hTl] at hm hL
    have hget : (T'.map wrow ++ [wrow w] ++ junk)[T'.length]? = some (wrow w) := by simp
    have hpi : (placeS w).2.1 = (tg == 4) := by show ((readS w).2.2 == 0 && (readS w).1 == 4) = _; rw [h0, htg]; rfl
    have hpn : (placeS w).1 = n := hn
    obtain ⟨X, hX⟩ : ∃ X, (tg != 4) = X := ⟨_, rfl⟩
    obtain ⟨Z, hZ⟩ : ∃ Z, decide (n < 0) = Z := ⟨_, rfl⟩
    obtain ⟨Y, hY⟩ : ∃ Y, decide (n ∈ S) = Y := ⟨_, rfl⟩
    have hXZ : X = true ∨ (X = false ∧ Z = false) := by
      cases hx : X with
      | true => exact .inl rfl
      | false =>
        rw [hx] at hX
        have h4 : tg = 4 := by simpa using hX
        obtain ⟨k, _, e1, _⟩ := hs.obj hkw (by rw [hpi, h4]; rfl)
        rw [hpn] at e1
        exact .inr ⟨rfl, by rw [← hZ, e1]; exact decide_eq_false (by omega)⟩
    have hmg : mget (embS S) n = if Y = true then some (.lit (.bool true)) else none := by rw [mget_embS, ← hY]; simp
    have hkeys := embS_keys S
    have hlw : IntKind.i64.wrap (((T'.length + 1 : Nat) : Int) - 1) = (T'.length : Int) := by rw [Go.Ab.wrap_small (by omega) (by omega)]; omega
    have hnn : (0 : Int) ≤ (T'.length : Int) := Int.natCast_nonneg _
    have hnl : (T'.length : Int) < ((T'.length + 1 : Nat) : Int) := by omega
    have hnl1 : T'.length < T'.length + 1 := by omega
    have hnl2 : (T'.length : Int) ≤ ((T'.length + 1 : Nat) : Int) := by omega

    (refine awp_reg_seq [0, 2, 7, 8, 9, 10, 11] fun K hK => ?_; (repeat' ((refine al_r rfl fun K' hK' => ?_); (repeat (simp only [go_sem, simprocAttr, hget, hlw, hnn, hnl, hnl1, hnl2, Nat.zero_add, Int.toNat_natCast, Nat.sub_zero])); (first | ((first | refine hK' _ _ ?_ | refine ⟨?_, hK' _ _ ?_⟩) <;> clear hK' K' <;> (first | (show alist _ _ _ _ _ _; skip) | (intro s hs; cases hs; done))) | ((show AC _ _ (D.fn 60 _) _ _); refine acall_p (f := 60) (e := rfl) (hr := rfl) (k := hK' _ _ ?_) (hc := Try.call60) (h := hrd); clear hK' K')))); all_goals (refine al_nil ?_; (simp only [go_sem, simprocAttr, hget, hlw, hnn, hnl, hnl1, hnl2, Nat.zero_add, Int.toNat_natCast, Nat.sub_zero]); refine hK _ ?_; clear hK K))
    (refine awp_reg_seq [0, 2, 7, 8, 9, 10, 11] fun K hK => ?_; (repeat' ((refine al_r rfl fun K' hK' => ?_); (repeat (simp only [go_sem, simprocAttr, hget, hlw, hnn, hnl, hnl1, hnl2, Nat.zero_add, Int.toNat_natCast, Nat.sub_zero])); ((first | refine hK' _ _ ?_ | refine ⟨?_, hK' _ _ ?_⟩ | refine ⟨?_, ?_, hK' _ _ ?_⟩) <;> clear hK' K' <;> (first | (show alist _ _ _ _ _ _; skip) | (intro s hs; cases hs; done) | omega)))); all_goals (refine al_nil ?_; (simp only [go_sem, simprocAttr, hget, hlw, hnn, hnl, hnl1, hnl2, Nat.zero_add, Int.toNat_natCast, Nat.sub_zero]); refine hK _ ?_; clear hK K))
    refine awp_seq_k fun K hK => ?_

    refine awp_reg_tov [0, 2, 7, 8, 10, 51] [(51, bD (X || Y))] (h := ?_) (k := ?_)
    · rcases hXZ with rfl | ⟨rfl, rfl⟩ <;> cases Y
      all_goals ((repeat' (first | ((first | refine al_r rfl fun K' hK' => ?_ | refine al_t rfl rfl fun K' hK' => ?_); (repeat (simp only [go_sem, simprocAttr, hX, hZ, hmg, hkeys, bne_self_eq_false])); ((refine hK' _ _ ?_) <;> clear hK' K')) | refine al_e rfl rfl ?_)); all_goals (refine al_nil ?_; (simp only [go_sem, simprocAttr, hX, hZ, hmg, hkeys, bne_self_eq_false, *, Bool.and_true, Bool.and_false, Bool.true_and, Bool.false_and, Bool.or_true, Bool.true_or, Bool.or_false, Bool.false_or, Bool.not_true, Bool.not_false, Bool.false_eq_true]; done)))
    (intro K hK; (simp only [go_sem, simprocAttr, hX, hZ, hmg, hkeys, bne_self_eq_false]); refine hK _ ?_; clear hK K)
    refine awp_if (X || Y) rfl (fun hc => ?_) (fun hc => ?_)
    · have hgo1 : RInv g w0 T' S := hi'.skip ⟨h0, fun hp => by
        rw [hpi, beq_iff_eq] at hp
        have hXf : X = false := by rw [← hX, hp]; rfl
        rw [hXf, Bool.false_or] at hc
        rw [hc, decide_eq_true_eq] at hY
        rw [hpn]; exact hY⟩
      refine awp_exit ?_
      (exact ⟨(g.length + 1 - S.length) * 5000 + T'.length, by omega, [0, 2, 7, 8], [0, 1, 2], by decide, (fun q hq => by have : q = 0 := Nat.lt_one_iff.1 hq; subst this; rfl), T', S, wrow w :: junk, hgo1, hk', rfl, by omega, by simp only [List.append_assoc]; rfl⟩)
    · have hXf : X = false := by cases X with | false => rfl | true => cases hc
      have hYf : Y = false := by cases Y with | false => rfl | true => rw [hXf] at hc; cases hc
      have ht4 : tg = 4 := by rw [hXf] at hX; simpa using hX
      have hnS : n ∉ S := by rw [hYf] at hY; simpa using hY
      have hp1 : (placeS w).2.1 = true := by rw [hpi, ht4]; rfl
      obtain ⟨nn, o, e1, hA, hpl, hkp, hob⟩ := hs.obj hkw hp1
      rw [hpn] at e1
      rw [← e1] at hob
      have hms := mset_embS hnS
      have hgo2 : RInv g w0 (T' ++ o.parts) (S ++ [n]) := by
        have := hi'.new hg4 hs.go hkw.1 hp1 (by rw [hpn]; exact hnS) hA
        rw [hpn] at this
        exact this
      have hk2 : ∀ x, x ∈ T' ++ o.parts → KnownK mv x := fun x hx => (List.mem_append.1 hx).elim (hk' x) (hkp x)
      have hb2 := hgo2.bound
      rw [List.length_append, List.length_singleton] at hb2
      obtain ⟨S2, hS2⟩ : ∃ S2, S2 = S ++ [n] := ⟨_, rfl⟩
      have hS2l : S2.length = S.length + 1 := by rw [hS2]; simp
      rw [← hS2] at hms hgo2
      have hdt : List.take T'.length (T'.map wrow ++ [wrow w] ++ junk) = T'.map wrow := by
        rw [List.append_assoc]
        exact List.take_left' (by simp)
      have hfp : (T'.length + o.parts.length) * 8 ≤ 140737488355328 := by omega
      have hpw := wrow1 o.parts

      refine awp_skip ?_
      refine hK _ ?_; clear hK K
      (refine awp_reg_seq [0, 2, 7, 8, 10] fun K hK => ?_; (repeat' ((first | refine al_r rfl fun K' hK' => ?_ | refine al_d rfl fun K' hK' => ?_); (repeat (simp only [go_sem, simprocAttr, hkeys, hms, hdt, hfp, hpw, List.length_map, List.drop_zero])); ((refine hK' _ _ ?_) <;> clear hK' K'))); all_goals (refine al_nil ?_; (simp only [go_sem, simprocAttr, hkeys, hms, hdt, hfp, hpw, List.length_map, List.drop_zero]); refine hK _ ?_; clear hK K))
      (refine awp_reg_seq [0, 2, 7, 8, 12] fun K hK => ?_; (repeat' ((first | refine al_r rfl fun K' hK' => ?_ | refine al_d rfl fun K' hK' => ?_); (repeat (first | (simp only [go_sem, simprocAttr, hkeys, hms, hdt, hfp, hpw, List.length_map, List.drop_zero]) | refine AS.mk ?_)); (first | ((first | refine hK' _ _ ?_ | refine ⟨?_, hK' _ _ ?_⟩) <;> clear hK' K' <;> (first | (show alist _ _ _ _ _ _; skip) | (simp; done))) | ((show AC _ _ (D.fn 61 _) _ _); refine acall_p (f := 61) (e := rfl) (hr := rfl) (k := hK' _ _ ?_) (hc := Try.call61) (h := hob); clear hK' K')))); all_goals (refine al_nil ?_; (simp only [go_sem, simprocAttr, hkeys, hms, hdt, hfp, hpw, List.length_map, List.drop_zero]); refine hK _ ?_; clear hK K))
      (refine awp_reg_end [0, 2, 7, 8] fun K hK => ?_; (repeat' ((refine al_r rfl fun K' hK' => ?_); (repeat (first | (simp only [go_sem, simprocAttr, hkeys, hms, hdt, hfp, hpw, List.length_map, List.drop_zero]) | refine AAp.grow ?_)); ((first | refine hK' _ _ ?_ | refine ⟨?_, ?_, hK' _ _ ?_⟩) <;> clear hK' K' <;> (first | (show alist _ _ _ _ _ _; skip) | assumption | omega)))); all_goals (refine al_nil ?_; (simp only [go_sem, simprocAttr, hkeys, hms, hdt, hfp, hpw, List.length_map, List.drop_zero]); refine hK _ ?_; clear hK K))
      (exact ⟨(g.length + 1 - S2.length) * 5000 + (T' ++ o.parts).length, by rw [hS2l, List.length_append]; omega, [0, 2, 7, 8], [0, 1, 4], by decide, (fun q hq => by have : q = 0 := Nat.lt_one_iff.1 hq; subst this; rfl), T' ++ o.parts, S2, [], hgo2, hk2, rfl, by rw [hS2l, List.length_append]; omega, by simp only [List.length_append, List.map_append, List.append_nil]; rfl⟩)

  · obtain rfl : T = [] := by
      cases T with
      | nil => rfl
      | cons w L' => simp at hc
    refine awp_exit ?_
    clear hK
    refine hK _ ?_; clear hK K
    (refine awp_reg_seq [6] fun K hK => ?_; (repeat' ((refine al_r rfl fun K' hK' => ?_); (repeat (simp only [go_sem, simprocAttr, bne_self_eq_false])); ((refine hK' _ _ ?_) <;> clear hK' K'))); all_goals (refine al_nil ?_; (simp only [go_sem, simprocAttr, bne_self_eq_false]); refine hK _ ?_; clear hK K))
    refine awp_ret (hR _ _ [0, 1] (.inl rfl) rfl (by decide) (by simp only [List.length_cons, List.length_nil]; decide) ?_)
    refine ⟨S, ?_, ?_, hi.all.1⟩ <;> simp only [go_sem, simprocAttr, bne_self_eq_false]


set_option maxRecDepth 100000 in
theorem apartC (g b : List Int) (mv : List (Int × Int)) (w0 : Int) (lo : List Obj) (hlo : lo.length ≤ maxLen) (hs : ShrK g b mv w0) (hob : ACallP Try.prog 15 [words g] (.tup [objs lo, iD 0])) :
    ACalls Try.prog 31 [words g, wD w0] [] (fun r obs' => (∃ B, r = bD B ∧ (B = true → ∀ a, ReachK g w0 a → (lo.any fun o => o.at_ == a) = true)) ∧ obs' = []) := by
  have hre := reached g b mv w0 hs
  refine acallm_fn [4] Try.func31 rfl rfl Try.ntmps31 (by simp) (by simp) fun R hR => ?_
  (refine awp_reg_seq [0, 1] fun K hK => ?_; (repeat' ((refine al_r rfl fun K' hK' => ?_); (repeat (simp only [go_sem, simprocAttr])); ((refine hK' _ _ ?_) <;> clear hK' K'))); all_goals (refine al_nil ?_; (simp only [go_sem, simprocAttr]); refine hK _ ?_; clear hK K))
  (refine awp_reg_seq [0, 1, 5, 6] fun K hK => ?_; (repeat' ((refine al_r rfl fun K' hK' => ?_); (repeat (simp only [go_sem, simprocAttr])); (first | ((refine hK' _ _ ?_) <;> clear hK' K') | ((show AC _ _ (D.fn 15 _) _ _); refine acall_p (f := 15) (e := rfl) (hr := rfl) (k := hK' _ _ ?_) (hc := Try.call15) (h := hob); clear hK' K')))); all_goals (refine al_nil ?_; (simp only [go_sem, simprocAttr]); refine hK _ ?_; clear hK K))
  refine awp_seq_k fun K hK => ?_
  refine awp_range_map (n0 := 0) 4 [5, 6, 17] rfl rfl rfl rfl rfl rfl rfl rfl rfl rfl rfl rfl rfl rfl rfl rfl rfl rfl rfl (by decide) (by decide) (by decide) (by decide) (by decide) (by decide) (by decide) (by decide) (k := 3) (e := 4) (by kernel_rfl) ?_
  simp only [List.take_succ_cons, List.take_zero]
  (repeat' ((refine al_r rfl fun K' hK' => ?_); (repeat (simp only [go_sem, simprocAttr])); (first | ((refine hK' _ _ ?_) <;> clear hK' K') | ((show AC _ _ (D.fn 64 _) _ _); refine acall_m (f := 64) [0] Try.call64 hre rfl rfl (by decide) (by simp) ?_; rintro r obs' ⟨S, rfl, rfl, hS⟩; refine ⟨by simp, ?_⟩; (simp only [go_sem, simprocAttr]); refine hK' _ _ ?_; clear hK' K'))))
  refine al_nil ?_
  refine ⟨_, _, 1, embS S, fun v todo l' ob' => (∀ a, a ∈ S → ¬ todo (.int .i64 a) → (lo.any fun o => o.at_ == a) = true) ∧ l' = [(5, objs lo), (6, iD 0), (17, .p (.lit v))] ∧ ob' = [.row 1 [wrow w0], .dead, .dead], rfl, rfl, rfl, fun v => ⟨fun a _ h => absurd trivial h, rfl, rfl⟩, ?_, ?_, ?_⟩
  · rintro v todo l' ob' ⟨_, rfl, rfl⟩; rfl
  rotate_left
  · rintro v todo l' ob' kx ⟨hS1, rfl, rfl⟩ hkx
    obtain ⟨a, haS, rfl⟩ := List.mem_map.1 hkx
    have hbe := beginsR lo hlo a
    obtain ⟨B, hB⟩ : ∃ B, (lo.any fun o => o.at_ == a) = B := ⟨_, rfl⟩
    rw [hB] at hbe
    (refine awp_reg_seq [5, 6, 17, 29] fun K hK => ?_; (repeat' ((first | refine al_r rfl fun K' hK' => ?_ | refine al_t rfl rfl fun K' hK' => ?_); (repeat (simp only [go_sem, simprocAttr])); (first | ((refine hK' _ _ ?_) <;> clear hK' K') | ((show AC _ _ (D.fn 36 _) _ _); refine acall_p (f := 36) (e := rfl) (hr := rfl) (k := hK' _ _ ?_) (hc := Try.call36) (h := hbe); clear hK' K')))); all_goals (refine al_nil ?_; (simp only [go_sem, simprocAttr]); refine hK _ ?_; clear hK K))
    refine awp_if (!B) rfl (fun hc => ?_) (fun hc => ?_)
    · (refine awp_reg_seq [4] fun K hK => ?_; (repeat' ((refine al_r rfl fun K' hK' => ?_); (repeat (simp only [go_sem, simprocAttr])); ((refine hK' _ _ ?_) <;> clear hK' K'))); all_goals (refine al_nil ?_; (simp only [go_sem, simprocAttr]); refine hK _ ?_; clear hK K))
      refine awp_ret (hR _ _ [] (.inl rfl) rfl (by decide) (by simp only [List.length_cons, List.length_nil]; decide) ?_)
      have hBf : B = false := by simpa using hc
      refine ⟨⟨false, ?_, fun h => by cases h⟩, ?_⟩ <;> simp only [go_sem, simprocAttr]
    · refine awp_skip ?_
      have hBt : B = true := by simpa using hc
      simp only [go_sem, simprocAttr]
      refine ⟨[5, 6, 17], [0, 1, 2], _, _, by decide, (fun q hq => absurd hq (Nat.not_lt_zero q)), rfl, fun a2 ha2 hn => ?_, rfl, rfl⟩
      by_cases e : a2 = a
      · rw [e, hB]; exact hBt
      · exact hS1 a2 ha2 fun ht => hn ⟨ht, fun h => e (by cases h; rfl)⟩
  rintro v todo l' ob' ⟨hS1, rfl, rfl⟩ hall
  refine hK _ ?_; clear hK K
  (refine awp_reg_seq [4] fun K hK => ?_; (repeat' ((refine al_r rfl fun K' hK' => ?_); (repeat (simp only [go_sem, simprocAttr])); ((refine hK' _ _ ?_) <;> clear hK' K'))); all_goals (refine al_nil ?_; (simp only [go_sem, simprocAttr]); refine hK _ ?_; clear hK K))
  refine awp_ret (hR _ _ [] (.inl rfl) rfl (by decide) (by simp only [List.length_cons, List.length_nil]; decide) ?_)
  refine ⟨⟨true, ?_, fun _ a ha => hS1 a ((hS a).2 ha) (hall (.int .i64 a, .lit (.bool true)) (List.mem_map.2 ⟨a, (hS a).2 ha, rfl⟩))⟩, ?_⟩ <;> simp only [go_sem, simprocAttr]
end Go.Proofs.Ytagphggcdmjlpaa.P

/- slices.Sort of ints, as a call over objects: out of the kit's contract. -/
namespace Go.Ab
open Go.Proofs Go.Shelf Go.Sort

abbrev srt (zs : List Int) : List Int := zs.mergeSort fun x y => decide (x ≤ y)

theorem Sr.wider {H : HV} {loc : Nat → Loc} {obs : List Ob} {w w' : World} (h : Sr H loc obs w) (hw : ∀ b, b < w.heap.size → w'.heap[b]? = w.heap[b]?) : Sr H loc obs w' where
  heap := fun b c hb => by rw [hw b (h.H_lt hb)]; exact h.heap b c hb
  obj := fun i o ho => by
    cases hl : o.live with
    | false => cases o <;> first | trivial | cases hl
    | true => exact Ob.holds_turn (.refl H) (Turns.refl _ _) (fun hr => hw _ (h.live_lt ho hl hr)) (h.obj i o ho)
  apart := h.apart
  inj := h.inj

theorem sort_calls {P : Program} {ρ : Ren} (L : Lays.n189 P ρ) (zs : List Int) (hz : zs.length < 4611686018427387904) (hne : zs ≠ []) :
    ACalls P (ρ.f 189) [.ref 0 0 zs.length] [.row 1 (zs.map fun z => [.lit (.int .i64 z)])] (fun r obs' => r = .tup [] ∧ obs' = [.row 1 ((srt zs).map fun z => [.lit (.int .i64 z)])]) := by
  intro H loc w vs hsr hsz hvs
  have hpos : 0 < zs.length := List.length_pos_iff.2 hne
  obtain ⟨v, rfl⟩ : ∃ v, vs = #[v] := by
    obtain ⟨l⟩ := vs
    match l, hsz with
    | [v], _ => exact ⟨v, rfl⟩
  have hv := hvs 0 v (.ref 0 0 zs.length) rfl rfl
  have hlen : (srt zs).length = zs.length := List.length_mergeSort zs
  generalize hd : D.ref 0 0 zs.length = d at hv
  cases hv <;> first | (cases hd; done) | skip
  case ref id off len cap s xs ho hl hc hx hr hn =>
    cases hd
    simp only [List.getElem?_cons_zero, Option.some.injEq, Ob.row.injEq] at ho
    obtain ⟨rfl, rfl⟩ := ho
    have hob := hsr.obj 0 _ rfl
    rcases hob with ⟨hx, _⟩ | ⟨_, c, ec, h1, h2, h3, h4, h5⟩
    · rw [hr] at hx; cases hx
    simp only [List.length_map, Nat.mul_one] at h3
    have hcell : ∀ j, j < zs.length → c[(loc 0).o + j]? = some (.int .i64 zs[j]!) := fun j hj => by
      obtain ⟨u, a1, _, a3⟩ := h5 j [.lit (.int .i64 zs[j]!)] (by rw [List.getElem?_map, List.getElem?_eq_getElem hj, getElem!_pos zs j hj]; rfl) 0 _ rfl
      cases a3
      simpa using a1
    have hblk : (loc 0).b < w.heap.size := hsr.live_lt (i := 0) rfl rfl hr
    have hH : Holds (Value.int .i64) w (loc 0).b (loc 0).o zs.toArray := fun j hj => by
      have hj' : j < zs.length := by simpa using hj
      refine ⟨?_, by simp [World.frozen?, h1]⟩
      simp only [World.cell?, h1, Option.isSome_none, Bool.false_eq_true, if_false]
      rw [hcell j hj']
      simp
    have hcall := Any.slices_Sort_int L (loc 0).b (loc 0).o cap zs w hH hblk hz
    simp only [Nat.zero_mul, Nat.add_zero]
    refine hcall.mono fun e w' ⟨he, n, os, hw'⟩ => ?_
    have hp : (putRow (Value.int .i64) (Sort.ahead w n) (loc 0).b (loc 0).o (srt zs).toArray).heap[(loc 0).b]? = some (.cells (putCells (Value.int .i64) (loc 0).o (srt zs).toArray c) ec (0, 0)) := by
      unfold putRow mapBlock
      simp only [Array.getElem?_modify, if_pos]
      show Option.map _ w.heap[(loc 0).b]? = _
      rw [h1]
      rfl
    have ho2 : ∀ b, b ≠ (loc 0).b → (putRow (Value.int .i64) (Sort.ahead w n) (loc 0).b (loc 0).o (srt zs).toArray).heap[b]? = w.heap[b]? := fun b hb => by
      unfold putRow mapBlock
      simp only [Array.getElem?_modify]
      rw [if_neg (fun e => hb e.symm)]
      rfl
    have hsz1 : (putRow (Value.int .i64) (Sort.ahead w n) (loc 0).b (loc 0).o (srt zs).toArray).heap.size = w.heap.size := by simp [size_putRow, Sort.ahead]
    have hgr : ∀ b, b < w.heap.size → w'.heap[b]? = (putRow (Value.int .i64) (Sort.ahead w n) (loc 0).b (loc 0).o (srt zs).toArray).heap[b]? := fun b hb => by
      rw [hw']
      unfold grow
      exact Array.getElem?_append_left (by rw [hsz1]; exact hb)
    have hsr1 : Sr H loc [.row 1 ((srt zs).map fun z => [.lit (.int .i64 z)])] (putRow (Value.int .i64) (Sort.ahead w n) (loc 0).b (loc 0).o (srt zs).toArray) := by
      refine hsr.setOb (id := 0) (o' := .row 1 ((srt zs).map fun z => [.lit (.int .i64 z)])) rfl rfl hr ⟨rfl, by simp [hlen]⟩ ho2 ?_
      refine .inr ⟨hr, _, ec, hp, by simp [putCells, h2], by simp [hlen]; exact h3, fun x hx => ?_, fun i x hi j y hj => ?_⟩
      · obtain ⟨z, _, rfl⟩ := List.mem_map.1 hx; rfl
      · rw [List.getElem?_map] at hi
        obtain ⟨z, hz1, rfl⟩ := Option.map_eq_some_iff.1 hi
        have hil := lt_of_get hz1
        cases j with
        | succ j => simp at hj
        | zero =>
          simp only [List.getElem?_cons_zero, Option.some.injEq] at hj
          subst hj
          refine ⟨.int .i64 z, ?_, rfl, .lit _⟩
          have hin : (loc 0).o + i < c.size := by omega
          simp only [putCells, Nat.mul_one, Nat.add_zero, Array.getElem?_mapIdx]
          rw [Array.getElem?_eq_getElem hin]
          simp only [Option.map_some, Option.some.injEq]
          rw [if_pos ⟨by omega, by simp; omega⟩, show (loc 0).o + i - (loc 0).o = i by omega]
          congr 1
          rw [getElem!_pos _ i (by simpa using hil)]
          simp only [List.getElem_toArray]
          rw [List.getElem?_eq_getElem hil] at hz1
          exact Option.some.inj hz1
    refine ⟨.tuple #[], H, loc, .tup [], _, ⟨rfl, rfl⟩, he, .tup _ _ rfl (fun i v d h _ => by simp at h), hsr1.wider (fun b hb => hgr b (by rw [hsz1] at hb; exact hb)), ⟨?_, ?_, ?_, ?_, fun b hb hm => ?_, .refl H, fun b c h => .inl (by rw [h]; simp)⟩, fun i o ho hl hr => ?_, fun k o ho => ?_⟩
    · rw [hw']; rfl
    · rw [hw']; rfl
    · rw [hw']; rfl
    · rw [hw']; unfold grow; simp [hsz1]
    · have hbne : b ≠ (loc 0).b := fun e => hm ⟨0, _, rfl, rfl, hr, e.symm⟩
      rw [hgr b hb, ho2 b hbne]
    · cases i with
      | zero => exact .inl ⟨0, _, rfl, rfl, hr, rfl⟩
      | succ i => simp at ho
    · cases k with
      | zero => cases ho; exact .inr ⟨_, rfl, ⟨rfl, by simp [hlen]⟩, rfl⟩
      | succ k => simp at ho
  case ref0 => injection hd with a b c; omega
  case refGone => cases hd; rename_i ho; simp at ho
end Go.Ab

/- slices.Sort at this program: the numbers, and that the bodies are those of the contract. -/
namespace Go.Proofs.Ytagphggcdmjlpaa.P
open Go.Proofs Go.Shelf
def lays189_ren : Go.Shelf.Ren := ⟨fun | 189 => 63 | 125 => 90 | 257 => 89 | 128 => 108 | 129 => 109 | 294 => 100 | 295 => 101 | 296 => 102 | 297 => 103 | 298 => 104 | 299 => 105 | 216 => 93 | 300 => 106 | 301 => 107 | 328 => 113 | 329 => 114 | 330 => 115 | 331 => 116 | 332 => 117 | 215 => 111 | 343 => 119 | n => n, fun | 28 => 58 | 3 => 3 | 46 => 100 | 0 => 0 | 51 => 174 | 53 => 34 | 4 => 4 | 183 => 168 | 182 => 167 | 131 => 121 | 5 => 5 | 9 => 9 | 218 => 177 | 222 => 109 | 228 => 182 | 229 => 47 | n => n, fun | n => n⟩
theorem lays189 : Go.Proofs.Lays.n189 Try.prog lays189_ren := {
  mixed := by kernel_rfl
  f125 := Try.func90.trans (congrArg some (by kernel_rfl))
  f128 := Try.func108.trans (congrArg some (by kernel_rfl))
  f129 := Try.func109.trans (congrArg some (by kernel_rfl))
  f189 := Try.func63.trans (congrArg some (by kernel_rfl))
  f215 := Try.func111.trans (congrArg some (by kernel_rfl))
  f216 := Try.func93.trans (congrArg some (by kernel_rfl))
  f257 := Try.func89.trans (congrArg some (by kernel_rfl))
  f294 := Try.func100.trans (congrArg some (by kernel_rfl))
  f295 := Try.func101.trans (congrArg some (by kernel_rfl))
  f296 := Try.func102.trans (congrArg some (by kernel_rfl))
  f297 := Try.func103.trans (congrArg some (by kernel_rfl))
  f298 := Try.func104.trans (congrArg some (by kernel_rfl))
  f299 := Try.func105.trans (congrArg some (by kernel_rfl))
  f300 := Try.func106.trans (congrArg some (by kernel_rfl))
  f301 := Try.func107.trans (congrArg some (by kernel_rfl))
  f328 := Try.func113.trans (congrArg some (by kernel_rfl))
  f329 := Try.func114.trans (congrArg some (by kernel_rfl))
  f330 := Try.func115.trans (congrArg some (by kernel_rfl))
  f331 := Try.func116.trans (congrArg some (by kernel_rfl))
  f332 := Try.func117.trans (congrArg some (by kernel_rfl))
  f343 := Try.func119.trans (congrArg some (by kernel_rfl))
  t0 := Try.underlying0
  a0 := Try.isAgg0
  z0 := Try.sizeOf0
  v0 := Try.zeroValue0
  t3 := Try.underlying3
  a3 := Try.isAgg3
  z3 := Try.sizeOf3
  v3 := Try.zeroValue3
  t4 := Try.underlying4
  a4 := Try.isAgg4
  z4 := Try.sizeOf4
  v4 := Try.zeroValue4
  t5 := Try.underlying5
  a5 := Try.isAgg5
  z5 := Try.sizeOf5
  v5 := Try.zeroValue5
  t9 := Try.underlying9
  a9 := Try.isAgg9
  z9 := Try.sizeOf9
  v9 := Try.zeroValue9
  t28 := Try.underlying58
  a28 := Try.isAgg58
  z28 := Try.sizeOf58
  v28 := Try.zeroValue58
  t46 := Try.underlying100
  a46 := Try.isAgg100
  z46 := Try.sizeOf100
  v46 := Try.zeroValue100
  t51 := Try.underlying174
  a51 := Try.isAgg174
  z51 := Try.sizeOf174
  v51 := Try.zeroValue174
  t53 := Try.underlying34
  a53 := Try.isAgg34
  z53 := Try.sizeOf34
  v53 := Try.zeroValue34
  t131 := Try.underlying121
  a131 := Try.isAgg121
  z131 := Try.sizeOf121
  v131 := Try.zeroValue121
  t182 := Try.underlying167
  a182 := Try.isAgg167
  z182 := Try.sizeOf167
  v182 := Try.zeroValue167
  t183 := Try.underlying168
  a183 := Try.isAgg168
  z183 := Try.sizeOf168
  v183 := Try.zeroValue168
  t218 := Try.underlying177
  a218 := Try.isAgg177
  z218 := Try.sizeOf177
  v218 := Try.zeroValue177
  t222 := Try.underlying109
  a222 := Try.isAgg109
  z222 := Try.sizeOf109
  v222 := Try.zeroValue109
  t228 := Try.underlying182
  a228 := Try.isAgg182
  z228 := Try.sizeOf182
  v228 := Try.zeroValue182
  t229 := Try.underlying47
  a229 := Try.isAgg47
  z229 := Try.sizeOf47
  v229 := Try.zeroValue47 }
end Go.Proofs.Ytagphggcdmjlpaa.P

/- Cells of carry: a contract. -/
namespace Go.Proofs.Ytagphggcdmjlpaa.P
open Go.Ab Go.Proofs.Ytagphggcdmjlpaa.T

theorem sortAny (zs : List Int) (hz : zs.length ≤ 10000) : ACalls Try.prog 63 [.ref 0 0 zs.length] [.row 1 (zs.map irow)] (fun r obs' => r = .tup [] ∧ obs' = [.row 1 ((srt zs).map irow)]) := by
  by_cases hne : zs = []
  · subst hne
    intro H loc w vs hsr hsz hvs
    obtain ⟨v, rfl⟩ : ∃ v, vs = #[v] := by
      obtain ⟨l⟩ := vs
      match l, hsz with
      | [v], _ => exact ⟨v, rfl⟩
    have hv := hvs 0 v (.ref 0 0 0) rfl rfl
    obtain ⟨a, cap, rfl⟩ : ∃ a cap, v = .slice a 0 cap := by
      cases hv with
      | ref => exact ⟨_, _, rfl⟩
      | ref0 => exact ⟨_, _, rfl⟩
      | refGone v id off len ho => simp at ho
    refine (Any.slices_Sort_int_none lays189 a cap w).mono fun e w' ⟨he, hw⟩ => ?_
    subst hw
    exact ⟨.tuple #[], H, loc, .tup [], [.row 1 []], ⟨rfl, by simp [srt]⟩, he, .tup _ _ rfl (fun i v d h _ => by simp at h), hsr, .refl _ _ _, fun i o ho hl hr => .inl ⟨i, o, ho, hl, hr, rfl⟩, fun k o ho => .inr ⟨o, ho, Ob.sameShape_refl o (by
      rcases List.mem_singleton.1 (List.mem_of_getElem? ho) with rfl
      simp), rfl⟩⟩
  · exact sort_calls lays189 zs (by omega) hne


theorem cellsBad (g : List Int) (w e : Int) (L : List Obj) (he : (e != 0) = true) (hob : ACallP Try.prog 15 [words g] (.tup [objs L, iD e])) : ACalls Try.prog 30 [words g, wD w] [] (fun r obs' => r = .tup [ints [], iD e] ∧ obs' = []) := by
  refine acallm_fn [4, 5] Try.func30 rfl rfl Try.ntmps30 (by simp) (by simp) fun R hR => ?_
  (refine awp_reg_seq [0, 1] fun K hK => ?_; (repeat' ((refine al_r rfl fun K' hK' => ?_); (repeat (simp only [go_sem, simprocAttr, he])); ((refine hK' _ _ ?_) <;> clear hK' K'))); all_goals (refine al_nil ?_; (simp only [go_sem, simprocAttr, he]); refine hK _ ?_; clear hK K))
  refine awp_seq_k fun K hK => ?_
  (refine awp_reg_seq [0, 1, 7] fun K hK => ?_; (repeat' ((refine al_r rfl fun K' hK' => ?_); (repeat (simp only [go_sem, simprocAttr, he])); (first | ((refine hK' _ _ ?_) <;> clear hK' K') | ((show AC _ _ (D.fn 15 _) _ _); refine acall_p (f := 15) (e := rfl) (hr := rfl) (k := hK' _ _ ?_) (hc := Try.call15) (h := hob); clear hK' K')))); all_goals (refine al_nil ?_; (simp only [go_sem, simprocAttr, he]); refine hK _ ?_; clear hK K))

  (refine awp_reg_seq [0, 1, 7, 21] fun K hK => ?_; (repeat' ((refine al_r rfl fun K' hK' => ?_); (repeat (simp only [go_sem, simprocAttr, he])); ((refine hK' _ _ ?_) <;> clear hK' K'))); all_goals (refine al_nil ?_; (simp only [go_sem, simprocAttr, he]); refine hK _ ?_; clear hK K))
  refine awp_if (_) rfl (fun hc => ?_) (fun hc => ?_)
  · (refine awp_reg_seq [4, 5] fun K hK => ?_; (repeat' ((refine al_r rfl fun K' hK' => ?_); (repeat (simp only [go_sem, simprocAttr, he])); ((refine hK' _ _ ?_) <;> clear hK' K'))); all_goals (refine al_nil ?_; (simp only [go_sem, simprocAttr, he]); refine hK _ ?_; clear hK K))
    (refine awp_frz [4, 5] [] (by decide) (by (simp; done)) ?_; simp only [go_sem, simprocAttr, he])
    refine awp_ret (hR _ _ [] (.inl rfl) rfl (by decide) (by simp only [List.length_cons, List.length_nil]; decide) ?_)
    refine ⟨?_, ?_⟩
    · (simp only [go_sem, simprocAttr, he]; rfl)
    · simp only [go_sem, simprocAttr, he]
  · cases hc

/-- What Cells answers. -/
def CellsR (g : List Int) (w0 : Int) (r : D) : Prop := ∃ l e, r = .tup [ints l, iD e] ∧ (e = 0 → CellsOk g w0 l ∧ l.length ≤ 4001) ∧ (e ≠ 0 → CellBad g w0 ∨ (objsS g).2 ≠ 0)

theorem cells_at {g : List Int} (hg4 : g.length ≤ 4000) (hgo : ∀ w, w ∈ g → WordOk w) (a : Int) : ∃ (o : Obj) (e : Int), atS g a = (o, e) ∧ (e = 0 → o.parts.length ≤ 4000) ∧ ACallP Try.prog 19 [words g, iD a] (.tup [objD o, iD e]) := by
  have h := at_ g a (Nat.le_trans hg4 (by simp [maxLen])) hgo
  generalize hA : atS g a = A at h
  obtain ⟨o, e⟩ := A
  exact ⟨o, e, rfl, fun he => by subst he; exact (parts_mem hg4 hgo hA).2, h⟩


set_option maxRecDepth 100000 in
theorem cellsGood (g : List Int) (w0 : Int) (lo : List Obj) (hg4 : g.length ≤ 4000) (hgo : ∀ w, w ∈ g → WordOk w) (hob : ACallP Try.prog 15 [words g] (.tup [objs lo, iD 0])) : ACalls Try.prog 30 [words g, wD w0] [] (fun r obs' => CellsR g w0 r ∧ obs' = []) := by
  refine acallm_fn [4, 5] Try.func30 rfl rfl Try.ntmps30 (by simp) (by simp) fun R hR => ?_
  (refine awp_reg_seq [0, 1] fun K hK => ?_; (repeat' ((refine al_r rfl fun K' hK' => ?_); (repeat (simp only [go_sem, simprocAttr, bne_self_eq_false])); ((refine hK' _ _ ?_) <;> clear hK' K'))); all_goals (refine al_nil ?_; (simp only [go_sem, simprocAttr, bne_self_eq_false]); refine hK _ ?_; clear hK K))
  refine awp_seq_k fun K hK => ?_
  (refine awp_reg_seq [0, 1, 7] fun K hK => ?_; (repeat' ((refine al_r rfl fun K' hK' => ?_); (repeat (simp only [go_sem, simprocAttr, bne_self_eq_false])); (first | ((refine hK' _ _ ?_) <;> clear hK' K') | ((show AC _ _ (D.fn 15 _) _ _); refine acall_p (f := 15) (e := rfl) (hr := rfl) (k := hK' _ _ ?_) (hc := Try.call15) (h := hob); clear hK' K')))); all_goals (refine al_nil ?_; (simp only [go_sem, simprocAttr, bne_self_eq_false]); refine hK _ ?_; clear hK K))
  (refine awp_reg_seq [0, 1, 7, 21] fun K hK => ?_; (repeat' ((refine al_r rfl fun K' hK' => ?_); (repeat (simp only [go_sem, simprocAttr, bne_self_eq_false])); ((refine hK' _ _ ?_) <;> clear hK' K'))); all_goals (refine al_nil ?_; (simp only [go_sem, simprocAttr, bne_self_eq_false]); refine hK _ ?_; clear hK K))
  refine awp_if (_) rfl (fun hc => ?_) (fun hc => ?_)
  · cases hc
  · refine awp_skip ?_
    refine hK _ ?_; clear hK K
    (refine awp_reg_seq [0, 1, 8] fun K hK => ?_; (repeat' ((refine al_r rfl fun K' hK' => ?_); (repeat (simp only [go_sem, simprocAttr, bne_self_eq_false])); ((refine hK' _ _ ?_) <;> clear hK' K'))); all_goals (refine al_nil ?_; (simp only [go_sem, simprocAttr, bne_self_eq_false]); refine hK _ ?_; clear hK K))
    (refine awp_reg_seq [0, 8, 9] fun K hK => ?_; (repeat' ((refine al_r rfl fun K' hK' => ?_); (repeat (simp only [go_sem, simprocAttr, bne_self_eq_false])); ((refine hK' _ _ ?_) <;> clear hK' K'))); all_goals (refine al_nil ?_; (simp only [go_sem, simprocAttr, bne_self_eq_false]); refine hK _ ?_; clear hK K))
    (refine awp_reg_seq [0, 8, 9, 10] fun K hK => ?_; (repeat' ((refine al_r rfl fun K' hK' => ?_); (repeat (simp only [go_sem, simprocAttr, bne_self_eq_false])); ((refine hK' _ _ ?_) <;> clear hK' K'))); all_goals (refine al_nil ?_; (simp only [go_sem, simprocAttr, bne_self_eq_false]); refine hK _ ?_; clear hK K))
    refine awp_born 10 1 rfl ?_
    (refine awp_frz [0, 8, 9, 10] [0, 1, 2] (by decide) (by (simp; done)) ?_; simp only [go_sem, simprocAttr, bne_self_eq_false])
    refine awp_seq_k fun K hK => ?_
    refine awp_block ?_
    -- loop 0 head [0, 8, 9, 10]
    refine awp_loop_cut (fun m s => ∃ (L S : List Int) (pre : List (List PV)), RInv g w0 L S ∧ m = (g.length + 1 - S.length) * 5000 + L.length ∧ L.length ≤ 1 + 4000 * S.length ∧ s = ⟨ofL [(0, words g), (8, .mp 0), (9, .ref 1 pre.length L.length), (10, .ref 2 0 (cellsOf g S).length)], [.map (embS S), .row 1 (pre ++ L.map wrow), .row 1 ((cellsOf g S).map irow)], 0⟩) ⟨_, [w0], [], [], RInv.start g w0, rfl, by simp, rfl⟩ ?_
    rintro m s ⟨L, S, pre, hi, hm, hL, rfl⟩
    have hSb := hi.bound
    refine awp_seq_k fun K hK => ?_
    (refine awp_reg_seq [0, 8, 9, 10, 28] fun K hK => ?_; (repeat' ((refine al_r rfl fun K' hK' => ?_); (repeat (simp only [go_sem, simprocAttr, bne_self_eq_false])); ((first | refine hK' _ _ ?_ | refine ⟨?_, hK' _ _ ?_⟩) <;> clear hK' K' <;> (first | (show alist _ _ _ _ _ _; skip) | (intro s hs; cases hs; done))))); all_goals (refine al_nil ?_; (simp only [go_sem, simprocAttr, bne_self_eq_false]); refine hK _ ?_; clear hK K))
    refine awp_if (decide ((L.length : Int) > 0)) rfl (fun hc => ?_) (fun hc => ?_)
    · refine awp_skip ?_
      refine hK _ ?_; clear hK K
      refine awp_block ?_
      obtain ⟨w, L', rfl⟩ : ∃ w L', L = w :: L' := by
        cases L with
        | nil => simp at hc
        | cons w L' => exact ⟨w, L', rfl⟩
      clear hc
      have hrd := readW w
      obtain ⟨tg, htg⟩ : ∃ tg, (readS w).1 = tg := ⟨_, rfl⟩
      obtain ⟨n, hn⟩ : ∃ n, (readS w).2.1 = n := ⟨_, rfl⟩
      obtain ⟨e, hee⟩ : ∃ e, (readS w).2.2 = e := ⟨_, rfl⟩
      rw [htg, hn, hee] at hrd
      rw [List.length_cons] at hm hL
      have hget : (pre ++ wrow w :: L'.map wrow)[pre.length]? = some (wrow w) := by simp
      obtain ⟨X, hX⟩ : ∃ X, (tg != 4) = X := ⟨_, rfl⟩
      obtain ⟨Y, hY⟩ : ∃ Y, decide (n ∈ S) = Y := ⟨_, rfl⟩
      have hmg : mget (embS S) n = if Y = true then some (.lit (.bool true)) else none := by rw [mget_embS, ← hY]; simp
      have hkeys := embS_keys S
      have hone : (L'.length : Int) + 1 ≥ 1 := by omega

      (refine awp_reg_seq [0, 8, 9, 10, 11, 12, 13] fun K hK => ?_; (repeat' ((refine al_r rfl fun K' hK' => ?_); (repeat (simp only [go_sem, simprocAttr, hget, Nat.add_zero, Int.toNat_zero, Int.toNat_natCast, Nat.add_sub_cancel])); (first | ((first | refine hK' _ _ ?_ | refine ⟨?_, hK' _ _ ?_⟩) <;> clear hK' K' <;> (first | (show alist _ _ _ _ _ _; skip) | assumption)) | ((show AC _ _ (D.fn 62 _) _ _); refine acall_p (f := 62) (e := rfl) (hr := rfl) (k := hK' _ _ ?_) (hc := Try.call62) (h := hrd); clear hK' K')))); all_goals (refine al_nil ?_; (simp only [go_sem, simprocAttr, hget, Nat.add_zero, Int.toNat_zero, Int.toNat_natCast, Nat.add_sub_cancel]); refine hK _ ?_; clear hK K))
      (refine awp_reg_seq [0, 8, 9, 10, 11, 12, 13] fun K hK => ?_; (repeat' ((refine al_r rfl fun K' hK' => ?_); (repeat (simp only [go_sem, simprocAttr, hget, Nat.add_zero, Int.toNat_zero, Int.toNat_natCast, Nat.add_sub_cancel])); ((first | refine hK' _ _ ?_ | refine ⟨?_, ?_, ?_, hK' _ _ ?_⟩) <;> clear hK' K' <;> (first | (show alist _ _ _ _ _ _; skip) | assumption | (simp; done))))); all_goals (refine al_nil ?_; (simp only [go_sem, simprocAttr, hget, Nat.add_zero, Int.toNat_zero, Int.toNat_natCast, Nat.add_sub_cancel]); refine hK _ ?_; clear hK K))
      refine awp_seq_k fun K hK => ?_
      (refine awp_reg_seq [0, 8, 9, 10, 11, 12, 13, 40] fun K hK => ?_; (repeat' ((refine al_r rfl fun K' hK' => ?_); (repeat (simp only [go_sem, simprocAttr, hget, Nat.add_zero, Int.toNat_zero, Int.toNat_natCast, Nat.add_sub_cancel])); ((refine hK' _ _ ?_) <;> clear hK' K'))); all_goals (refine al_nil ?_; (simp only [go_sem, simprocAttr, hget, Nat.add_zero, Int.toNat_zero, Int.toNat_natCast, Nat.add_sub_cancel]); refine hK _ ?_; clear hK K))
      refine awp_if (e != 0) rfl (fun hc => ?_) (fun hc => ?_)
      · (refine awp_reg_seq [4, 5] fun K hK => ?_; (repeat' ((refine al_r rfl fun K' hK' => ?_); (repeat (simp only [go_sem, simprocAttr, hget, Nat.add_zero, Int.toNat_zero, Int.toNat_natCast, Nat.add_sub_cancel])); ((refine hK' _ _ ?_) <;> clear hK' K'))); all_goals (refine al_nil ?_; (simp only [go_sem, simprocAttr, hget, Nat.add_zero, Int.toNat_zero, Int.toNat_natCast, Nat.add_sub_cancel]); refine hK _ ?_; clear hK K))
        (refine awp_frz [4, 5] [] (by decide) (by (simp; done)) ?_; simp only [go_sem, simprocAttr, hget, Nat.add_zero, Int.toNat_zero, Int.toNat_natCast, Nat.add_sub_cancel])
        refine awp_ret (hR _ _ [] (.inl rfl) rfl (by decide) (by simp only [List.length_cons, List.length_nil]; decide) ?_)
        refine ⟨⟨[], e, ?_, fun h => absurd h (by simpa using hc), fun h => .inl <| hi.bad1 (by show (readS w).2.2 ≠ 0; rw [hee]; exact h)⟩, ?_⟩
        · (simp only [go_sem, simprocAttr, hget, Nat.add_zero, Int.toNat_zero, Int.toNat_natCast, Nat.add_sub_cancel]; rfl)
        · simp only [go_sem, simprocAttr, hget, Nat.add_zero, Int.toNat_zero, Int.toNat_natCast, Nat.add_sub_cancel]
      · have he0 : e = 0 := by simpa using hc
        refine awp_skip ?_
        refine hK _ ?_; clear hK K
        refine awp_seq_k fun K hK => ?_

        refine awp_reg_tov [0, 8, 9, 10, 12, 48] [(48, bD (X || Y))] (h := ?_) (k := ?_)
        · cases X <;> cases Y
          all_goals ((repeat' (first | ((first | refine al_r rfl fun K' hK' => ?_ | refine al_t rfl rfl fun K' hK' => ?_); (repeat (simp only [go_sem, simprocAttr, hX, hmg, hkeys])); ((refine hK' _ _ ?_) <;> clear hK' K')) | refine al_e rfl rfl ?_)); all_goals (refine al_nil ?_; (simp only [go_sem, simprocAttr, hX, hmg, hkeys, *, Bool.and_true, Bool.and_false, Bool.true_and, Bool.false_and, Bool.or_true, Bool.true_or, Bool.or_false, Bool.false_or, Bool.not_true, Bool.not_false, Bool.false_eq_true]; done)))
        (intro K hK; (simp only [go_sem, simprocAttr, hX, hmg, hkeys]); refine hK _ ?_; clear hK K)
        refine awp_if (X || Y) rfl (fun hc => ?_) (fun hc => ?_)
        · have hgo1 : RInv g w0 L' S := hi.skip ⟨by show (readS w).2.2 = 0; rw [hee, he0], fun hp => by
            have hp : ((readS w).2.2 == 0 && (readS w).1 == 4) = true := hp
            rw [hee, htg, Bool.and_eq_true, beq_iff_eq, beq_iff_eq] at hp
            have hXf : X = false := by rw [← hX, hp.2]; rfl
            rw [hXf, Bool.false_or] at hc
            rw [hc, decide_eq_true_eq] at hY
            show (readS w).2.1 ∈ S
            rw [hn]; exact hY⟩
          refine awp_exit ?_
          (exact ⟨(g.length + 1 - S.length) * 5000 + L'.length, by omega, [0, 8, 9, 10], [0, 1, 2], by decide, (fun q hq => absurd hq (Nat.not_lt_zero q)), L', S, pre ++ [wrow w], hgo1, rfl, by omega, by rw [List.length_append, List.append_assoc]; rfl⟩)
        · have hXf : X = false := by cases X with | false => rfl | true => cases hc
          have hYf : Y = false := by cases Y with | false => rfl | true => rw [hXf] at hc; cases hc
          have ht4 : tg = 4 := by rw [hXf] at hX; simpa using hX
          have hnS : n ∉ S := by rw [hYf] at hY; simpa using hY
          obtain ⟨o, e2, hA, hpl, hat⟩ := cells_at hg4 hgo n
          have hms := mset_embS hnS

          refine awp_skip ?_
          refine hK _ ?_; clear hK K
          (refine awp_reg_seq [0, 8, 9, 10, 12, 13, 14] fun K hK => ?_; (repeat' ((first | refine al_r rfl fun K' hK' => ?_ | refine al_d rfl fun K' hK' => ?_); (repeat (first | (simp only [go_sem, simprocAttr, hkeys, hms]) | refine AS.mk ?_)); (first | ((first | refine hK' _ _ ?_ | refine ⟨?_, hK' _ _ ?_⟩) <;> clear hK' K' <;> (first | (show alist _ _ _ _ _ _; skip) | (simp; done))) | ((show AC _ _ (D.fn 19 _) _ _); refine acall_p (f := 19) (e := rfl) (hr := rfl) (k := hK' _ _ ?_) (hc := Try.call19) (h := hat); clear hK' K')))); all_goals (refine al_nil ?_; (simp only [go_sem, simprocAttr, hkeys, hms]); refine hK _ ?_; clear hK K))
          refine awp_seq_k fun K hK => ?_
          (refine awp_reg_seq [0, 8, 9, 10, 12, 13, 14, 56] fun K hK => ?_; (repeat' ((refine al_r rfl fun K' hK' => ?_); (repeat (simp only [go_sem, simprocAttr, hkeys, hms])); ((refine hK' _ _ ?_) <;> clear hK' K'))); all_goals (refine al_nil ?_; (simp only [go_sem, simprocAttr, hkeys, hms]); refine hK _ ?_; clear hK K))
          refine awp_if (e2 != 0) rfl (fun hc => ?_) (fun hc => ?_)
          · (refine awp_reg_seq [4, 5] fun K hK => ?_; (repeat' ((refine al_r rfl fun K' hK' => ?_); (repeat (simp only [go_sem, simprocAttr, hkeys, hms])); ((refine hK' _ _ ?_) <;> clear hK' K'))); all_goals (refine al_nil ?_; (simp only [go_sem, simprocAttr, hkeys, hms]); refine hK _ ?_; clear hK K))
            (refine awp_frz [4, 5] [] (by decide) (by (simp; done)) ?_; simp only [go_sem, simprocAttr, hkeys, hms])
            refine awp_ret (hR _ _ [] (.inl rfl) rfl (by decide) (by simp only [List.length_cons, List.length_nil]; decide) ?_)
            refine ⟨⟨[], e2, ?_, fun h => absurd h (by simpa using hc), fun h => .inl <| hi.bad2 (by show ((readS w).2.2 == 0 && (readS w).1 == 4) = true; rw [hee, htg, he0, ht4]; rfl) (by show (atS g (readS w).2.1).2 ≠ 0; rw [hn, hA]; exact h)⟩, ?_⟩
            · (simp only [go_sem, simprocAttr, hkeys, hms]; rfl)
            · simp only [go_sem, simprocAttr, hkeys, hms]
          · have he2 : e2 = 0 := by simpa using hc
            rw [he2] at hA
            have hpl := hpl he2
            have hpn : (placeS w).1 = n := hn
            have hgo2 : RInv g w0 (L' ++ o.parts) (S ++ [n]) := by
              have := hi.new hg4 hgo (by show (readS w).2.2 = 0; rw [hee, he0]) (by show ((readS w).2.2 == 0 && (readS w).1 == 4) = true; rw [hee, htg, he0, ht4]; rfl) (by rw [hpn]; exact hnS) (by rw [hpn]; exact hA)
              rw [hpn] at this
              exact this
            have hb2 := hgo2.bound
            rw [List.length_append, List.length_singleton] at hb2
            have hce := cellsOf_end g S n
            rw [hA] at hce
            obtain ⟨S2, hS2⟩ : ∃ S2, S2 = S ++ [n] := ⟨_, rfl⟩
            have hS2l : S2.length = S.length + 1 := by rw [hS2]; simp
            rw [← hS2] at hms hgo2 hce
            have hco : (cellsOf g S).length ≤ S.length := by unfold cellsOf; exact List.length_filter_le _ _
            have htc : List.take (cellsOf g S).length ((cellsOf g S).map irow) = (cellsOf g S).map irow := List.take_of_length_le (by simp)
            have hfc : ((cellsOf g S).length + 1) * 8 ≤ 140737488355328 := by omega
            have hdt : List.take L'.length (List.drop (pre.length + 1) (pre ++ wrow w :: L'.map wrow)) = L'.map wrow := by
              rw [List.drop_append, List.drop_of_length_le (by omega), List.nil_append, show pre.length + 1 - pre.length = 1 by omega]
              exact List.take_of_length_le (by simp)
            have hfp : (L'.length + o.parts.length) * 8 ≤ 140737488355328 := by omega
            have hpw := wrow1 o.parts

            refine awp_skip ?_
            refine hK _ ?_; clear hK K
            (refine awp_reg_seq [0, 8, 9, 10, 12, 14] fun K hK => ?_; (repeat' ((first | refine al_r rfl fun K' hK' => ?_ | refine al_d rfl fun K' hK' => ?_); (repeat (simp only [go_sem, simprocAttr, hkeys, hms, htc, hfc, hdt, hfp, hpw, List.length_map, List.drop_zero])); ((refine hK' _ _ ?_) <;> clear hK' K'))); all_goals (refine al_nil ?_; (simp only [go_sem, simprocAttr, hkeys, hms, htc, hfc, hdt, hfp, hpw, List.length_map, List.drop_zero]); refine hK _ ?_; clear hK K))
            refine awp_seq_k fun K hK => ?_
            (refine awp_reg_seq [0, 8, 9, 10, 12, 14, 62] fun K hK => ?_; (repeat' ((refine al_r rfl fun K' hK' => ?_); (repeat (simp only [go_sem, simprocAttr, hkeys, hms, htc, hfc, hdt, hfp, hpw, List.length_map, List.drop_zero])); ((refine hK' _ _ ?_) <;> clear hK' K'))); all_goals (refine al_nil ?_; (simp only [go_sem, simprocAttr, hkeys, hms, htc, hfc, hdt, hfp, hpw, List.length_map, List.drop_zero]); refine hK _ ?_; clear hK K))
            refine awp_if (o.kind == 5) rfl (fun hc => ?_) (fun hc => ?_)
            · have hce1 : cellsOf g S2 = cellsOf g S ++ [n] := by rw [hce]; exact if_pos hc
              (refine awp_reg_end [0, 8, 9, 10, 14] fun K hK => ?_; (repeat' ((refine al_r rfl fun K' hK' => ?_); (repeat (first | (simp only [go_sem, simprocAttr, hkeys, hms, htc, hfc, hdt, hfp, hpw, List.length_map, List.drop_zero]) | refine AAp.grow ?_)); ((first | refine hK' _ _ ?_ | refine ⟨?_, ?_, hK' _ _ ?_⟩) <;> clear hK' K' <;> (first | (show alist _ _ _ _ _ _; skip) | (simp; done))))); all_goals (refine al_nil ?_; (simp only [go_sem, simprocAttr, hkeys, hms, htc, hfc, hdt, hfp, hpw, List.length_map, List.drop_zero]); refine hK _ ?_; clear hK K))
              refine hK _ ?_; clear hK K
              (refine awp_reg_end [0, 8, 9, 10] fun K hK => ?_; (repeat' ((refine al_r rfl fun K' hK' => ?_); (repeat (first | (simp only [go_sem, simprocAttr, hkeys, hms, htc, hfc, hdt, hfp, hpw, List.length_map, List.drop_zero]) | refine AAp.grow ?_)); ((first | refine hK' _ _ ?_ | refine ⟨?_, ?_, hK' _ _ ?_⟩) <;> clear hK' K' <;> (first | (show alist _ _ _ _ _ _; skip) | assumption | omega)))); all_goals (refine al_nil ?_; (simp only [go_sem, simprocAttr, hkeys, hms, htc, hfc, hdt, hfp, hpw, List.length_map, List.drop_zero]); refine hK _ ?_; clear hK K))
              (exact ⟨(g.length + 1 - S2.length) * 5000 + (L' ++ o.parts).length, by rw [hS2l, List.length_append]; omega, [0, 8, 9, 10], [0, 6, 5], by decide, (fun q hq => absurd hq (Nat.not_lt_zero q)), L' ++ o.parts, S2, [], hgo2, rfl, by rw [hS2l, List.length_append]; omega, by simp only [hce1, List.length_append, List.map_append]; rfl⟩)
            · have hce2 : cellsOf g S2 = cellsOf g S := by rw [hce]; exact if_neg (by rw [hc]; exact Bool.false_ne_true)
              refine awp_skip ?_
              refine hK _ ?_; clear hK K
              (refine awp_reg_end [0, 8, 9, 10] fun K hK => ?_; (repeat' ((refine al_r rfl fun K' hK' => ?_); (repeat (first | (simp only [go_sem, simprocAttr, hkeys, hms, htc, hfc, hdt, hfp, hpw, List.length_map, List.drop_zero]) | refine AAp.grow ?_)); ((first | refine hK' _ _ ?_ | refine ⟨?_, ?_, hK' _ _ ?_⟩) <;> clear hK' K' <;> (first | (show alist _ _ _ _ _ _; skip) | assumption | omega)))); all_goals (refine al_nil ?_; (simp only [go_sem, simprocAttr, hkeys, hms, htc, hfc, hdt, hfp, hpw, List.length_map, List.drop_zero]); refine hK _ ?_; clear hK K))
              (exact ⟨(g.length + 1 - S2.length) * 5000 + (L' ++ o.parts).length, by rw [hS2l, List.length_append]; omega, [0, 8, 9, 10], [0, 4, 2], by decide, (fun q hq => absurd hq (Nat.not_lt_zero q)), L' ++ o.parts, S2, [], hgo2, rfl, by rw [hS2l, List.length_append]; omega, by simp only [hce2, List.length_append, List.map_append]; rfl⟩)

    · obtain rfl : L = [] := by
        cases L with
        | nil => rfl
        | cons w L' => simp at hc
      have hco : (cellsOf g S).length ≤ S.length := by unfold cellsOf; exact List.length_filter_le _ _
      have hsort := sortAny (cellsOf g S) (by omega)
      have hsl : (srt (cellsOf g S)).length = (cellsOf g S).length := List.length_mergeSort _
      have hok : CellsOk g w0 (srt (cellsOf g S)) := cells_ok hi (List.mergeSort_perm _ _)
      refine awp_exit ?_
      clear hK
      refine hK _ ?_; clear hK K
      (refine awp_reg_seq [10] fun K hK => ?_; (repeat' ((refine al_r rfl fun K' hK' => ?_); (repeat (simp only [go_sem, simprocAttr, bne_self_eq_false, List.length_map])); (first | ((refine hK' _ _ ?_) <;> clear hK' K') | ((show AC _ _ (D.fn 63 _) _ _); refine acall_m (f := 63) [2] Try.call63 hsort rfl rfl (by decide) (by simp) ?_; rintro r obs' ⟨rfl, rfl⟩; refine ⟨by simp, ?_⟩; (simp only [go_sem, simprocAttr, bne_self_eq_false, List.length_map]); refine hK' _ _ ?_; clear hK' K')))); all_goals (refine al_nil ?_; (simp only [go_sem, simprocAttr, bne_self_eq_false, List.length_map]); refine hK _ ?_; clear hK K))
      (refine awp_reg_seq [4, 5] fun K hK => ?_; (repeat' ((refine al_r rfl fun K' hK' => ?_); (repeat (simp only [go_sem, simprocAttr, bne_self_eq_false, List.length_map])); ((refine hK' _ _ ?_) <;> clear hK' K'))); all_goals (refine al_nil ?_; (simp only [go_sem, simprocAttr, bne_self_eq_false, List.length_map]); refine hK _ ?_; clear hK K))
      (refine awp_frz [4, 5] [] (by decide) (by (simp; done)) ?_; simp only [go_sem, simprocAttr, bne_self_eq_false, List.length_map])
      refine awp_ret (hR _ _ [] (.inl rfl) rfl (by decide) (by simp only [List.length_cons, List.length_nil]; decide) ?_)
      refine ⟨⟨srt (cellsOf g S), 0, ?_, fun _ => ⟨hok, by omega⟩, fun h => absurd rfl h⟩, ?_⟩ <;> simp only [go_sem, simprocAttr, bne_self_eq_false, List.length_map]
      rw [← hsl, List.take_of_length_le (by simp)]

theorem cellsAny (g : List Int) (w0 : Int) (hgl : g.length ≤ maxLen) (hgo : ∀ w, w ∈ g → WordOk w) : ACallR Try.prog 30 [words g, wD w0] (CellsR g w0) := by
  have hob := objects g hgl hgo
  by_cases he : (objsS g).2 = 0
  · rw [he] at hob
    exact cellsGood g w0 _ (heap_flat hgl hgo he).1 hgo hob
  · refine (cellsBad g w0 _ _ (by simpa using he) hob).mono ?_
    rintro r o ⟨h1, h2⟩
    exact ⟨⟨[], _, h1, fun h => absurd h he, fun _ => .inr he⟩, h2⟩
end Go.Proofs.Ytagphggcdmjlpaa.P

/- What is built in a heap whose words name objects. -/
namespace Go.Proofs.Ytagphggcdmjlpaa.P
open Go.Ab Go.Proofs.Ytagphggcdmjlpaa.T

theorem NameOk.more {L N : List Obj} {w : Int} (h : NameOk L w) : NameOk (L ++ N) w := ⟨h.1, fun hi => by
  obtain ⟨o, ho, ha⟩ := h.2 hi
  exact ⟨o, List.mem_append_left _ ho, ha⟩⟩

end Go.Proofs.Ytagphggcdmjlpaa.P

/- CarryShares: the walk. -/
namespace Go.Proofs.Ytagphggcdmjlpaa.P
open Go.Ab Go.Proofs.Ytagphggcdmjlpaa.T


/-- What was carried over. -/
theorem shr_of {g : List Int} {L : List Obj} {w x : Int} {S : CT} (hg4 : g.length ≤ 4000) (hgo : ∀ w, w ∈ g → WordOk w) (hL : Placed L) (h4 : (flat L).length ≤ 4000) (hw : wordK g 40 (g, flat L, []) w = ((x, 0), S)) :
    ShrK g S.2.1 S.2.2 w ∧ x = phiK S.2.2 w ∧ ∃ T, Placed T ∧ S.2.1 = flat T ∧ (flat T).length ≤ 4000 ∧ T.length = L.length + S.2.2.length := by
  obtain ⟨a1, a2, a3, a4, a5, a6⟩ := word_inv hg4 hgo 40 _ w x S (start_inv hL h4) hw
  obtain ⟨N, n1, n2, n3, n4, n5⟩ := a1.ex
  refine ⟨⟨hg4, hgo, by rw [n2]; exact n3, ⟨L ++ N, n1, n2, fun a y hy => ?_⟩, a1.inj, a1.nd, a3, fun a y hy => a6 a y hy rfl⟩, a4, L ++ N, n1, n2, n3, by rw [List.length_append, n4]⟩
  obtain ⟨_, t, q, o, q1, q2⟩ := n5 a y hy
  exact ⟨t, q, o, List.mem_append_right _ q1, q2⟩


end Go.Proofs.Ytagphggcdmjlpaa.P

/- CarryAlike: the contract. -/
namespace Go.Proofs.Ytagphggcdmjlpaa.P
open Go.Ab Go.Proofs.Ytagphggcdmjlpaa.T

/-- All that is reached was moved. -/
theorem shr_moved {g b : List Int} {mv : List (Int × Int)} {w0 : Int} (hs : ShrK g b mv w0) (a : Int) : ReachK g w0 a ↔ (lk mv a).isSome = true := by
  constructor
  · intro h
    obtain ⟨y, hy, _⟩ := reach_fwd hs h hs.kn
    rw [hy]; rfl
  · intro h
    obtain ⟨y, hy⟩ := Option.isSome_iff_exists.1 h
    exact hs.rch a y hy

end Go.Proofs.Ytagphggcdmjlpaa.P

/- CarryGoes: the walk, and the contract. -/
namespace Go.Proofs.Ytagphggcdmjlpaa.P
open Go.Ab Go.Proofs.Ytagphggcdmjlpaa.T

theorem good2 (a b : Int) (G : Bool) (h : ([a, b].any fun e => e != 0) = !G) : ACallP Try.prog 20 [.p (.sl [[.lit (.int .i64 a)], [.lit (.int .i64 b)]])] (bD G) := by
  have := goodE [a, b] (by simp [maxLen])
  rw [h, Bool.not_not] at this
  exact this


theorem goesBad (g t : List Int) (w e3 : Int) (he : (e3 != 0) = true) (hce : ACallR Try.prog 30 [words g, wD w] (CellsR g w))
    (hov : ACallP Try.prog 27 [words g, words t, wD w] (.tup [words [], words [], wD 0, iD e3])) : ACallP Try.prog 7 [words g, words t, wD w] (bD true) := by
  refine acallp_fn [6] Try.func7 rfl rfl Try.ntmps7 (by simp) fun R hR => ?_
  (refine awp_reg_seq [0, 1, 2] fun K hK => ?_; (repeat' ((refine al_r rfl fun K' hK' => ?_); (repeat (simp only [go_sem, simprocAttr])); ((refine hK' _ _ ?_) <;> clear hK' K'))); all_goals (refine al_nil ?_; (simp only [go_sem, simprocAttr]); refine hK _ ?_; clear hK K))
  (refine awp_reg_seq [0, 1, 2, 7, 8] fun K hK => ?_; (repeat' ((refine al_r rfl fun K' hK' => ?_); (repeat (simp only [go_sem, simprocAttr])); (first | ((refine hK' _ _ ?_) <;> clear hK' K') | ((show AC _ _ (D.fn 30 _) _ _); refine acall_r (f := 30) Try.call30 hce rfl ?_; rintro r ⟨l, e2, rfl, hok, hbad⟩; (simp only [go_sem, simprocAttr]); refine hK' _ _ ?_; clear hK' K')))); all_goals (refine al_nil ?_; (simp only [go_sem, simprocAttr]); refine hK _ ?_; clear hK K))
  (refine awp_reg_seq [0, 2, 7, 8, 9, 10, 11, 12] fun K hK => ?_; (repeat' ((refine al_r rfl fun K' hK' => ?_); (repeat (simp only [go_sem, simprocAttr])); (first | ((refine hK' _ _ ?_) <;> clear hK' K') | ((show AC _ _ (D.fn 27 _) _ _); refine acall_p (f := 27) (e := rfl) (hr := rfl) (k := hK' _ _ ?_) (hc := Try.call27) (h := hov); clear hK' K')))); all_goals (refine al_nil ?_; (simp only [go_sem, simprocAttr]); refine hK _ ?_; clear hK K))
  (refine awp_frz [0, 2, 7, 8, 9, 10, 11, 12] [] (by decide) (by (simp; done)) ?_; simp only [go_sem, simprocAttr])
  have hgd := good2 e2 e3 false (by simp [he])
  refine awp_seq_k fun K hK => ?_
  (refine awp_reg_seq [7, 9, 10, 11, 49] fun K hK => ?_; (repeat' (first | ((first | refine al_r rfl fun K' hK' => ?_ | refine al_t rfl rfl fun K' hK' => ?_); (repeat (simp only [go_sem, simprocAttr])); (first | ((refine hK' _ _ ?_) <;> clear hK' K') | ((show AC _ _ (D.fn 28 _) _ _); refine acall_p (f := 28) (e := rfl) (hr := rfl) (k := hK' _ _ ?_) (hc := Try.call28) (h := carriesT); clear hK' K') | ((show AC _ _ (D.fn 20 _) _ _); refine acall_g (f := 20) (e := rfl) (hr := rfl) (hf := by simp [D.all, D.allL, flatL, flatPV]) (k := hK' _ _ ?_) (hc := Try.call20) (h := hgd); clear hK' K'))) | refine al_e rfl rfl ?_)); all_goals (refine al_nil ?_; (simp only [go_sem, simprocAttr]); refine hK _ ?_; clear hK K))
  refine awp_if (_) rfl (fun hc => ?_) (fun hc => ?_)
  · (refine awp_reg_seq [6] fun K hK => ?_; (repeat' ((refine al_r rfl fun K' hK' => ?_); (repeat (simp only [go_sem, simprocAttr])); (first | ((refine hK' _ _ ?_) <;> clear hK' K') | ((show AC _ _ (D.fn 28 _) _ _); refine acall_p (f := 28) (e := rfl) (hr := rfl) (k := hK' _ _ ?_) (hc := Try.call28) (h := carriesT); clear hK' K')))); all_goals (refine al_nil ?_; (simp only [go_sem, simprocAttr]); refine hK _ ?_; clear hK K))
    all_goals (refine awp_ret ?_; (refine hR _ _ (.inl rfl) rfl ?_); (simp only [go_sem, simprocAttr, *, Bool.and_true, Bool.and_false, Bool.true_and, Bool.false_and, Bool.or_true, Bool.true_or, Bool.or_false, Bool.false_or, Bool.not_true, Bool.not_false, Bool.false_eq_true]; done))
  · cases hc


set_option maxRecDepth 100000 in
theorem goesGood (g t b left : List Int) (w x : Int) (lo lo2 : List Obj) (hll2 : lo2.length ≤ maxLen) (hce : ACallR Try.prog 30 [words g, wD w] (CellsR g w)) (hce2 : ACallR Try.prog 30 [words b, wD x] (CellsR b x))
    (hov : ACalls Try.prog 27 [words g, words t, wD w] [] (fun r' obs' => r' = .tup [.ref 0 0 left.length, .ref 1 0 b.length, wD x, iD 0] ∧ obs' = [.row 1 (left.map wrow), .row 1 (b.map wrow)]))
    (hap : ACallR Try.prog 31 [words g, wD w] (fun r => ∃ B, r = bD B ∧ (B = true → ∀ a, ReachK g w a → (lo.any fun o => o.at_ == a) = true)))
    (hobs : (∀ a, ReachK g w a → (lo.any fun o => o.at_ == a) = true) → ACallP Try.prog 15 [words left] (.tup [objs lo2, iD 0]))
    (hfull : ∀ l, CellsOk g w l → ∀ o, o ∈ lo2 → (o.kind == 5 && (o.parts.length : Int) == 1) = true → o.at_ ∉ l) (hb0 : ¬ (CellBad b x ∨ (objsS b).2 ≠ 0)) (hlen : ∀ l l2, CellsOk g w l → CellsOk b x l2 → l2.length = l.length) :
    ACallP Try.prog 7 [words g, words t, wD w] (bD true) := by
  have htl : List.take left.length (left.map wrow) = left.map wrow := List.take_of_length_le (by simp)
  have htb : List.take b.length (b.map wrow) = b.map wrow := List.take_of_length_le (by simp)
  refine acallp_fn [6] Try.func7 rfl rfl Try.ntmps7 (by simp) fun R hR => ?_
  (refine awp_reg_seq [0, 1, 2] fun K hK => ?_; (repeat' ((refine al_r rfl fun K' hK' => ?_); (repeat (simp only [go_sem, simprocAttr, bne_self_eq_false])); ((refine hK' _ _ ?_) <;> clear hK' K'))); all_goals (refine al_nil ?_; (simp only [go_sem, simprocAttr, bne_self_eq_false]); refine hK _ ?_; clear hK K))
  (refine awp_reg_seq [0, 1, 2, 7, 8] fun K hK => ?_; (repeat' ((refine al_r rfl fun K' hK' => ?_); (repeat (simp only [go_sem, simprocAttr, bne_self_eq_false])); (first | ((refine hK' _ _ ?_) <;> clear hK' K') | ((show AC _ _ (D.fn 30 _) _ _); refine acall_r (f := 30) Try.call30 hce rfl ?_; rintro r ⟨l, e2, rfl, hok, hbad⟩; (simp only [go_sem, simprocAttr, bne_self_eq_false]); refine hK' _ _ ?_; clear hK' K')))); all_goals (refine al_nil ?_; (simp only [go_sem, simprocAttr, bne_self_eq_false]); refine hK _ ?_; clear hK K))
  (refine awp_reg_seq [0, 2, 7, 8, 9, 10, 11, 12] fun K hK => ?_; (repeat' ((refine al_r rfl fun K' hK' => ?_); (repeat (simp only [go_sem, simprocAttr, bne_self_eq_false])); (first | ((refine hK' _ _ ?_) <;> clear hK' K') | ((show AC _ _ (D.fn 27 _) _ _); refine acall_new (f := 27) Try.call27 hov rfl ?_; rintro r obs' ⟨rfl, rfl⟩; (simp only [go_sem, simprocAttr, bne_self_eq_false]); refine hK' _ _ ?_; clear hK' K')))); all_goals (refine al_nil ?_; (simp only [go_sem, simprocAttr, bne_self_eq_false]); refine hK _ ?_; clear hK K))

  (refine awp_frz [0, 2, 7, 8, 9, 10, 11, 12] [] (by decide) (by (simp; done)) ?_; simp only [go_sem, simprocAttr, htl, htb, bne_self_eq_false, List.length_map])
  by_cases hz : e2 = 0
  rotate_left
  · have hgd := good2 e2 0 false (by simp [hz])
    refine awp_seq_k fun K hK => ?_
    (refine awp_reg_seq [7, 9, 10, 11, 49] fun K hK => ?_; (repeat' (first | ((first | refine al_r rfl fun K' hK' => ?_ | refine al_t rfl rfl fun K' hK' => ?_); (repeat (simp only [go_sem, simprocAttr, htl, htb, bne_self_eq_false, List.length_map])); (first | ((refine hK' _ _ ?_) <;> clear hK' K') | ((show AC _ _ (D.fn 28 _) _ _); refine acall_p (f := 28) (e := rfl) (hr := rfl) (k := hK' _ _ ?_) (hc := Try.call28) (h := carriesT); clear hK' K') | ((show AC _ _ (D.fn 20 _) _ _); refine acall_g (f := 20) (e := rfl) (hr := rfl) (hf := by simp [D.all, D.allL, flatL, flatPV]) (k := hK' _ _ ?_) (hc := Try.call20) (h := hgd); clear hK' K'))) | refine al_e rfl rfl ?_)); all_goals (refine al_nil ?_; (simp only [go_sem, simprocAttr, htl, htb, bne_self_eq_false, List.length_map]); refine hK _ ?_; clear hK K))
    refine awp_if (true) rfl (fun hc => ?_) (fun hc => ?_)
    · (refine awp_reg_seq [6] fun K hK => ?_; (repeat' ((refine al_r rfl fun K' hK' => ?_); (repeat (simp only [go_sem, simprocAttr, htl, htb, bne_self_eq_false, List.length_map])); (first | ((refine hK' _ _ ?_) <;> clear hK' K') | ((show AC _ _ (D.fn 28 _) _ _); refine acall_p (f := 28) (e := rfl) (hr := rfl) (k := hK' _ _ ?_) (hc := Try.call28) (h := carriesT); clear hK' K')))); all_goals (refine al_nil ?_; (simp only [go_sem, simprocAttr, htl, htb, bne_self_eq_false, List.length_map]); refine hK _ ?_; clear hK K))
      all_goals (refine awp_ret ?_; (refine hR _ _ (.inl rfl) rfl ?_); (simp only [go_sem, simprocAttr, htl, htb, bne_self_eq_false, List.length_map, *, Bool.and_true, Bool.and_false, Bool.true_and, Bool.false_and, Bool.or_true, Bool.true_or, Bool.or_false, Bool.false_or, Bool.not_true, Bool.not_false, Bool.false_eq_true]; done))
    · cases hc
  subst hz
  have hgd := good2 0 0 true rfl
  obtain ⟨hok, hll⟩ := hok rfl
  refine awp_seq_k fun K hK => ?_
  (refine awp_reg_seq [7, 9, 10, 11, 49] fun K hK => ?_; (repeat' ((first | refine al_r rfl fun K' hK' => ?_ | refine al_t rfl rfl fun K' hK' => ?_); (repeat (simp only [go_sem, simprocAttr, htl, htb, bne_self_eq_false, List.length_map])); (first | ((refine hK' _ _ ?_) <;> clear hK' K') | ((show AC _ _ (D.fn 28 _) _ _); refine acall_p (f := 28) (e := rfl) (hr := rfl) (k := hK' _ _ ?_) (hc := Try.call28) (h := carriesT); clear hK' K') | ((show AC _ _ (D.fn 20 _) _ _); refine acall_g (f := 20) (e := rfl) (hr := rfl) (hf := by simp [D.all, D.allL, flatL, flatPV]) (k := hK' _ _ ?_) (hc := Try.call20) (h := hgd); clear hK' K') | ((show AC _ _ (D.fn 31 _) _ _); refine acall_r (f := 31) Try.call31 hap rfl ?_; rintro r ⟨B, rfl, hB⟩; (simp only [go_sem, simprocAttr, htl, htb, bne_self_eq_false, List.length_map]); refine hK' _ _ ?_; clear hK' K')))); all_goals (refine al_nil ?_; (simp only [go_sem, simprocAttr, htl, htb, bne_self_eq_false, List.length_map]); refine hK _ ?_; clear hK K))
  refine awp_if (!B) rfl (fun hc => ?_) (fun hc => ?_)
  · (refine awp_reg_seq [6] fun K hK => ?_; (repeat' ((refine al_r rfl fun K' hK' => ?_); (repeat (simp only [go_sem, simprocAttr, htl, htb, bne_self_eq_false, List.length_map])); (first | ((refine hK' _ _ ?_) <;> clear hK' K') | ((show AC _ _ (D.fn 28 _) _ _); refine acall_p (f := 28) (e := rfl) (hr := rfl) (k := hK' _ _ ?_) (hc := Try.call28) (h := carriesT); clear hK' K')))); all_goals (refine al_nil ?_; (simp only [go_sem, simprocAttr, htl, htb, bne_self_eq_false, List.length_map]); refine hK _ ?_; clear hK K))
    all_goals (refine awp_ret ?_; (refine hR _ _ (.inl rfl) rfl ?_); (simp only [go_sem, simprocAttr, htl, htb, bne_self_eq_false, List.length_map, *, Bool.and_true, Bool.and_false, Bool.true_and, Bool.false_and, Bool.or_true, Bool.true_or, Bool.or_false, Bool.false_or, Bool.not_true, Bool.not_false, Bool.false_eq_true]; done))
  · have hBt : B = true := by simpa using hc
    have hob2 := hobs (hB hBt)
    refine awp_skip ?_
    refine hK _ ?_; clear hK K
    (refine awp_reg_seq [7, 10, 11, 13, 14] fun K hK => ?_; (repeat' ((refine al_r rfl fun K' hK' => ?_); (repeat (simp only [go_sem, simprocAttr, htl, htb, bne_self_eq_false, List.length_map])); (first | ((refine hK' _ _ ?_) <;> clear hK' K') | ((show AC _ _ (D.fn 15 _) _ _); refine acall_p (f := 15) (e := rfl) (hr := rfl) (k := hK' _ _ ?_) (hc := Try.call15) (h := hob2); clear hK' K')))); all_goals (refine al_nil ?_; (simp only [go_sem, simprocAttr, htl, htb, bne_self_eq_false, List.length_map]); refine hK _ ?_; clear hK K))
    refine awp_seq_k fun K hK => ?_
    (refine awp_reg_seq [7, 10, 11, 13, 57] fun K hK => ?_; (repeat' ((refine al_r rfl fun K' hK' => ?_); (repeat (simp only [go_sem, simprocAttr, htl, htb, bne_self_eq_false, List.length_map])); ((refine hK' _ _ ?_) <;> clear hK' K'))); all_goals (refine al_nil ?_; (simp only [go_sem, simprocAttr, htl, htb, bne_self_eq_false, List.length_map]); refine hK _ ?_; clear hK K))
    refine awp_if (_) rfl (fun hc => ?_) (fun hc => ?_)
    · cases hc
    · refine awp_skip ?_
      refine hK _ ?_; clear hK K

      (refine awp_reg_seq [7, 10, 11, 13, 15] fun K hK => ?_; (repeat' ((refine al_r rfl fun K' hK' => ?_); (repeat (simp only [go_sem, simprocAttr, List.length_map])); ((refine hK' _ _ ?_) <;> clear hK' K'))); all_goals (refine al_nil ?_; (simp only [go_sem, simprocAttr, List.length_map]); refine hK _ ?_; clear hK K))
      refine awp_seq_k fun K hK => ?_
      (refine awp_reg_seq [7, 10, 11, 15, 58, 59, 60] fun K hK => ?_; (repeat' ((refine al_r rfl fun K' hK' => ?_); (repeat (simp only [go_sem, simprocAttr, List.length_map])); ((first | refine hK' _ _ ?_ | refine ⟨?_, hK' _ _ ?_⟩) <;> clear hK' K' <;> (first | (show alist _ _ _ _ _ _; skip) | (intro s hs; cases hs; done))))); all_goals (refine al_nil ?_; (simp only [go_sem, simprocAttr, List.length_map]); refine hK _ ?_; clear hK K))
      (refine awp_frz [7, 10, 11, 15, 58, 59, 60] [] (by decide) (by (simp; done)) ?_; simp only [go_sem, simprocAttr, List.length_map])
      refine awp_block ?_
      -- loop 0 head [7, 10, 11, 15, 58, 59, 60]
      refine awp_loop_cut (fun m s => ∃ i : Nat, i ≤ lo2.length ∧ m = lo2.length - i ∧ s = ⟨ofL [(7, ints l), (10, words b), (11, wD x), (15, iD 0), (58, objs lo2), (59, iD lo2.length), (60, iD i)], [], 0⟩) ⟨_, 0, Nat.zero_le _, rfl, rfl⟩ ?_
      rintro m s ⟨i, hi, hm, rfl⟩
      (refine awp_reg_seq [7, 10, 11, 15, 58, 59, 60, 61] fun K hK => ?_; (repeat' ((refine al_r rfl fun K' hK' => ?_); (repeat (simp only [go_sem, simprocAttr, List.length_map])); ((refine hK' _ _ ?_) <;> clear hK' K'))); all_goals (refine al_nil ?_; (simp only [go_sem, simprocAttr, List.length_map]); refine hK _ ?_; clear hK K))
      refine awp_seq_k fun K hK => ?_
      refine awp_if (decide ((i : Int) < (lo2.length : Int))) rfl (fun hc => ?_) (fun hc => ?_)
      · refine awp_skip ?_
        refine hK _ ?_; clear hK K
        refine awp_seq_k fun K hK => ?_
        refine awp_block ?_
        have hi2 : i < lo2.length := by simpa using hc
        obtain ⟨o, hget⟩ := get_of_lt hi2
        have hnn : (0 : Int) ≤ (i : Int) := Int.natCast_nonneg i
        have hnx : IntKind.i64.wrap ((i : Int) + 1) = ((i + 1 : Nat) : Int) := wrap_next hi2 hll2
        have hcon := contains l (by simp only [maxLen]; omega) o.at_
        obtain ⟨E, hE⟩ : ∃ E, (o.kind == 5) = E := ⟨_, rfl⟩
        obtain ⟨G, hG⟩ : ∃ G, ((o.parts.length : Int) == 1) = G := ⟨_, rfl⟩
        obtain ⟨C, hC⟩ : ∃ C, decide (firstAt (fun n => o.at_ == n) l ≥ 0) = C := ⟨_, rfl⟩
        rw [hC] at hcon
        have hEGC : (E && (G && C)) = false := by
          have hf := hfull l hok o (List.mem_of_getElem? hget)
          rw [hE, hG] at hf
          cases hEG : (E && G) with
          | false => rw [← Bool.and_assoc, hEG, Bool.false_and]
          | true =>
            have hnm := hf hEG
            rw [firstAt_none (fun j y hy => by
              cases hq : (o.at_ == y) with
              | false => rfl
              | true => exact absurd (by rw [beq_iff_eq.1 hq]; exact List.mem_of_getElem? hy) hnm)] at hC
            rw [← hC, ← Bool.and_assoc, hEG]; rfl

        (refine awp_reg_seq [7, 10, 11, 15, 17, 58, 59, 60] fun K hK => ?_; (repeat' ((first | refine al_r rfl fun K' hK' => ?_ | refine al_d rfl fun K' hK' => ?_); (repeat (first | (simp only [go_sem, simprocAttr, hget, hnn, hi2, hnx, hE, hG, Int.toNat_natCast, List.getElem?_map, Option.map_some, List.length_map, Obj.row]) | refine AS.mk ?_)); ((first | refine hK' _ _ ?_ | refine ⟨?_, hK' _ _ ?_⟩) <;> clear hK' K' <;> (first | (show alist _ _ _ _ _ _; skip) | (simp; done))))); all_goals (refine al_nil ?_; (simp only [go_sem, simprocAttr, hget, hnn, hi2, hnx, hE, hG, Int.toNat_natCast, List.getElem?_map, Option.map_some, List.length_map, Obj.row]); refine hK _ ?_; clear hK K))
        refine awp_reg_tov [7, 10, 11, 15, 58, 59, 60, 78] [(7, ints l), (10, words b), (11, wD x), (15, iD 0), (58, objs lo2), (59, iD lo2.length), (60, iD i), (78, bD false)] (h := ?_) (k := ?_)
        · cases E <;> cases G <;> cases C <;> first | (cases hEGC; done) | skip
          all_goals ((repeat' (first | ((first | refine al_r rfl fun K' hK' => ?_ | refine al_t rfl rfl fun K' hK' => ?_); (repeat (simp only [go_sem, simprocAttr, hget, hnn, hi2, hnx, hE, hG, Int.toNat_natCast, List.getElem?_map, Option.map_some, List.length_map, Obj.row])); (first | ((first | refine hK' _ _ ?_ | refine ⟨?_, hK' _ _ ?_⟩) <;> clear hK' K' <;> (first | (show alist _ _ _ _ _ _; skip) | (intro s hs; cases hs; done))) | ((show AC _ _ (D.fn 32 _) _ _); refine acall_p (f := 32) (e := rfl) (hr := rfl) (k := hK' _ _ ?_) (hc := Try.call32) (h := hcon); clear hK' K'))) | refine al_e rfl rfl ?_)); all_goals (refine al_nil ?_; (simp only [go_sem, simprocAttr, hget, hnn, hi2, hnx, hE, hG, Int.toNat_natCast, List.getElem?_map, Option.map_some, List.length_map, Obj.row, *, Bool.and_true, Bool.and_false, Bool.true_and, Bool.false_and, Bool.or_true, Bool.true_or, Bool.or_false, Bool.false_or, Bool.not_true, Bool.not_false, Bool.false_eq_true]; done)))
        (intro K hK; (simp only [go_sem, simprocAttr, hget, hnn, hi2, hnx, hE, hG, Int.toNat_natCast, List.getElem?_map, Option.map_some, List.length_map, Obj.row]); refine hK _ ?_; clear hK K)
        refine awp_if (_) rfl (fun hc => ?_) (fun hc => ?_)
        · cases hc
        · refine awp_skip ?_
          refine hK _ ?_; clear hK K
          (refine awp_reg_end [7, 10, 11, 15, 58, 59, 60] fun K hK => ?_; (repeat' ((refine al_r rfl fun K' hK' => ?_); (repeat (simp only [go_sem, simprocAttr, hget, hnn, hi2, hnx, hE, hG, Int.toNat_natCast, List.getElem?_map, Option.map_some, List.length_map, Obj.row])); ((refine hK' _ _ ?_) <;> clear hK' K'))); all_goals (refine al_nil ?_; (simp only [go_sem, simprocAttr, hget, hnn, hi2, hnx, hE, hG, Int.toNat_natCast, List.getElem?_map, Option.map_some, List.length_map, Obj.row]); refine hK _ ?_; clear hK K))
          exact ⟨lo2.length - (i + 1), by omega, [7, 10, 11, 15, 58, 59, 60], [], by decide, by intro q hq; exact absurd hq (Nat.not_lt_zero q), i + 1, hi2, rfl, rfl⟩

      · refine awp_exit ?_
        clear hK
        refine hK _ ?_; clear hK K
        (refine awp_reg_seq [7, 15, 18, 19] fun K hK => ?_; (repeat' ((refine al_r rfl fun K' hK' => ?_); (repeat (simp only [go_sem, simprocAttr, List.length_map])); (first | ((refine hK' _ _ ?_) <;> clear hK' K') | ((show AC _ _ (D.fn 30 _) _ _); refine acall_r (f := 30) Try.call30 hce2 rfl ?_; rintro r ⟨l2, e3, rfl, hok2, hbad2⟩; (simp only [go_sem, simprocAttr, List.length_map]); refine hK' _ _ ?_; clear hK' K')))); all_goals (refine al_nil ?_; (simp only [go_sem, simprocAttr, List.length_map]); refine hK _ ?_; clear hK K))
        have he3 : e3 = 0 := Decidable.byContradiction fun h => hb0 (hbad2 h)
        subst he3
        obtain ⟨hok2, hll2'⟩ := hok2 rfl
        have hlens := hlen l l2 hok hok2

        (refine awp_reg_seq [6] fun K hK => ?_; (repeat' ((first | refine al_r rfl fun K' hK' => ?_ | refine al_t rfl rfl fun K' hK' => ?_); (repeat (simp only [go_sem, simprocAttr, hlens, List.length_map, beq_self_eq_true])); ((first | refine hK' _ _ ?_ | refine ⟨?_, hK' _ _ ?_⟩) <;> clear hK' K' <;> (first | (show alist _ _ _ _ _ _; skip) | (intro s hs; cases hs; done))))); all_goals (refine al_nil ?_; (simp only [go_sem, simprocAttr, hlens, List.length_map, beq_self_eq_true]); refine hK _ ?_; clear hK K))
        all_goals (refine awp_ret ?_; (refine hR _ _ (.inl rfl) rfl ?_); (simp only [go_sem, simprocAttr, hlens, List.length_map, beq_self_eq_true, *, Bool.and_true, Bool.and_false, Bool.true_and, Bool.false_and, Bool.or_true, Bool.true_or, Bool.or_false, Bool.false_or, Bool.not_true, Bool.not_false, Bool.false_eq_true]; done))

theorem carryGoes (g t : List Int) (w : Int) (hgl : g.length ≤ maxLen) (htl : t.length ≤ maxLen) (hgo : ∀ w, w ∈ g → WordOk w) (hto : ∀ w, w ∈ t → WordOk w) : ACallP Try.prog 7 [words g, words t, wD w] (bD true) := by
  have hce := cellsAny g w hgl hgo
  rcases overC g t w hgl htl hgo hto with ⟨e, he, hov⟩ | ⟨x, S, h1, h2, hw, hov⟩
  · exact goesBad g t w e (by simpa using he) hce hov
  · obtain ⟨hg4, hgf, hgp⟩ := heap_flat hgl hgo h1
    obtain ⟨ht4, htf, htp⟩ := heap_flat htl hto h2
    rw [htf] at hw
    have hft : (flat (objsS t).1).length ≤ 4000 := by rw [← htf]; exact ht4
    obtain ⟨hs, hx, T, hT, hb, hT4, hTl⟩ := shr_of hg4 hgo htp hft hw
    have hce2 := cellsAny S.2.1 x (Nat.le_trans hs.b4 (by simp [maxLen])) (by rw [hb]; exact placed_ok hT)
    have hog := objects g hgl hgo
    rw [h1] at hog
    have hcl := count_len (L := (objsS g).1)
    rw [← hgf] at hcl
    have hlo : (objsS g).1.length ≤ maxLen := by simp only [maxLen]; omega
    have hap := apartC g S.2.1 S.2.2 w _ hlo hs hog
    have hLO2 := emp_placed (mv := S.2.2) hgp
    have hfl : (flat ((objsS g).1.map (emp S.2.2))).length = g.length := by rw [emp_flat hgp.2, ← hgf]
    refine goesGood g t S.2.1 S.1 w x (objsS g).1 ((objsS g).1.map (emp S.2.2)) (by simpa using hlo) hce hce2 hov hap (fun hbg => ?_) (fun l hl o ho hc hm => ?_) ?_ (fun l l2 hl hl2 => ?_)
    · have hleft := left_inv hg4 hgo hgp hgf 40 _ w x S (start_inv htp hft) (left_start hgf _) (fun a ha => by
        have := hbg a ha
        rw [List.any_eq_true] at this
        obtain ⟨o, ho, e⟩ := this
        exact ⟨o, ho, by simpa using e⟩) hw
      unfold LeftOk at hleft
      have hob := objects S.1 (by rw [hleft, hfl]; exact hgl) (by rw [hleft]; exact placed_ok hLO2)
      rw [hleft, placed_objs hLO2 (by rw [hfl]; exact hg4), ← hleft] at hob
      exact hob
    · have hr := ((hl.2.1 _).1 hm).1
      rw [left_empty ho ((shr_moved hs _).1 hr)] at hc
      cases hc
    · rintro (h | h)
      · rw [hx] at h; exact shr_good hs h
      · rw [hb, placed_objs hT hT4] at h; exact h rfl
    · rw [hx] at hl2
      exact cells_len hs hl hl2
end Go.Proofs.Ytagphggcdmjlpaa.P

