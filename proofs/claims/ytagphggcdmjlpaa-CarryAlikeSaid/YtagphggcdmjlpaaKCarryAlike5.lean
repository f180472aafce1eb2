/- Texts of this proof, joined: AbR, C4, AbS, SO, C3, Y28, Y34, Y35, C1, Y36, R19, C7, C8. -/
import Derived.Test.YtagphggcdmjlpaaKCarryAlike4
import Derived.Maps.RangeRun
import Derived.Shelf.Sort.Plain
import Derived.Test.YtagphggcdmjlpaaProg
import Derived.Shelf.Slices.In.SortNone
set_option linter.unusedSimpArgs false
set_option linter.unusedVariables false
set_option maxHeartbeats 1000000
/- A range over a map of one's own, whatever the order: the keys, each once. No program is named here. -/
namespace Go.Ab
open Go.ChangeMaps (setBlock)

theorem alist_cutW {P : Program} {nt : Nat} {A : Oper → St → (D → St → Prop) → Prop} (hA : ∀ o st K, A o st K → OpS P nt o st K) {ops : Array Oper} (l2 : List Oper) (X : St → Prop) (T : Act → World → Prop) {M : En} {H0 : HV} {w0 : World}
    (hX : ∀ s a w, X s → Is M H0 w0 nt s a w → wpList P ops (fun e a' w' => e = .normal ∧ T a' w') l2 a w) : ∀ (l : List Oper) (st : St), alist A nt ops l st X → ∀ (a : Act) (w : World), Is M H0 w0 nt st a w →
      wpList P ops (fun e a' w' => e = .normal ∧ T a' w') (l ++ l2) a w
  | [], st, h => fun a w hi => hX st a w h hi
  | o :: rest, st, h => by
    intro a w hi
    have goOn : ∀ st', dstOk nt o.dst → ∀ v d H loc w', alist A nt ops rest (st'.put o.dst d) X → Rel M H0 w0 nt H loc w' st' a → V H loc st'.ob v d →
        wpList P ops (fun e a' w' => e = .normal ∧ T a' w') (rest ++ l2) (a.put o.dst v) w' := fun st' hd v d H loc w' hk r hv =>
      alist_cutW hA l2 X T hX rest _ hk _ w' ⟨H, loc, r.put hd hv⟩
    have run : dstOk nt o.dst → (A o st fun d st' => alist A nt ops rest (st'.put o.dst d) X) →
        o.wp P a w (wpList P ops (fun e a' w' => e = .normal ∧ T a' w') (rest ++ l2)) (fun e a' w' => e = .normal ∧ T a' w') := fun hd ha =>
      hA _ _ _ ha M H0 w0 w a hi _ _ fun d st' v w' H loc hk r hv => goOn st' hd v d H loc w' hk r hv
    have skip : dstOk nt o.dst → alist A nt ops rest (st.put o.dst (.p (.lit undef))) X →
        wpList P ops (fun e a' w' => e = .normal ∧ T a' w') (rest ++ l2) (a.put o.dst undef) w := fun hd ha => by
      obtain ⟨H, loc, r⟩ := hi
      exact goOn st hd undef _ H loc w ha r (.p _ _ (.lit _))
    obtain ⟨H, loc, r⟩ := hi
    unfold alist at h
    rw [List.cons_append]
    unfold wpList
    cases hg : o.guard with
    | none =>
      rw [hg] at h
      rw [if_pos (by simp [Region.wanted, hg])]
      exact .inl (run h.1 h.2)
    | some jw =>
      obtain ⟨j, want⟩ := jw
      rw [hg] at h
      dsimp only at h
      split at h
      · rename_i b hb
        have hy := yielded_of r hb
        dsimp only at hy
        simp only [Region.wanted, hg, hy]
        by_cases e : b = want
        · subst e; simp only [beq_self_eq_true, if_true]; exact .inl (run h.1 (h.2.1 rfl))
        · have e' : b = !want := by cases b <;> cases want <;> simp_all
          have : (some b == some want) = false := by subst e'; cases want <;> rfl
          rw [this]
          exact skip h.1 (h.2.2 e')
      · rename_i vs hb
        have hy := yielded_of r hb
        dsimp only at hy
        simp only [Region.wanted, hg, hy]
        exact skip h.1 h.2
      · exact h.elim

section
variable {P : Program} {nt : Nat}

/-- The blocks that a state's objects lie in. -/
def Blk (loc : Nat → Loc) (ob : List Ob) (b : Nat) : Prop := ∃ (i : Nat) (o : Ob), ob[i]? = some o ∧ o.live = true ∧ (loc i).r = true ∧ (loc i).b = b

theorem Rel.n0_le {M : En} {H0 : HV} {w0 : World} {H : HV} {loc : Nat → Loc} {w : World} {st : St} {a : Act} (r : Rel M H0 w0 nt H loc w st a) : ∀ k, k < st.n0 → ∃ o o', M.ob[k]? = some o ∧ st.ob[k]? = some o' ∧ (o' = .dead ∨ (o.sameShape o' ∧ loc k = M.loc k)) := fun k hk => by
  have hkl : k < M.ob.length := by rw [r.n0]; exact hk
  have h1 : M.ob[k]? = some (M.ob[k]'hkl) := List.getElem?_eq_getElem hkl
  rcases r.ent k _ h1 with h2 | ⟨o', h2, h3, h4⟩
  · exact ⟨_, _, h1, h2, .inl rfl⟩
  · exact ⟨_, _, h1, h2, .inr ⟨h3, h4⟩⟩

/-- The same execution, told as if the call had begun here. -/
theorem Rel.here {M : En} {H0 : HV} {w0 : World} {H : HV} {loc : Nat → Loc} {w : World} {st : St} {a : Act} (r : Rel M H0 w0 nt H loc w st a) : Rel ⟨Blk loc st.ob, st.ob.take st.n0, loc⟩ H w nt H loc w st a := by
  have hle : st.n0 ≤ st.ob.length := by
    rcases Nat.lt_or_ge st.ob.length st.n0 with h | h
    · obtain ⟨_, _, _, h2, _⟩ := r.n0_le st.ob.length h
      rw [List.getElem?_eq_none (Nat.le_refl _)] at h2
      cases h2
    · exact h
  refine ⟨r.sr, r.tm, r.sz, r.df, Grows.refl _ _ _, fun i o ho hl hr => .inl ⟨i, o, ho, hl, hr, rfl⟩, by simp; omega, fun k o hk => ?_⟩
  rw [List.getElem?_take] at hk
  split at hk
  · rename_i hlt
    obtain ⟨o1, o2, h1, h2, h3⟩ := r.n0_le k hlt
    rw [h2] at hk
    cases hk
    rcases h3 with rfl | ⟨h3, _⟩
    · exact .inl h2
    · refine .inr ⟨_, h2, Ob.sameShape_refl _ fun e => ?_, rfl⟩
      subst e
      cases o1 <;> exact h3
  · cases hk

theorem shape_dead {o : Ob} (h : Ob.dead.sameShape o) : o = .dead := by
  cases o <;> first | rfl | exact h.elim

/-- And back. -/
theorem Rel.back {M : En} {H0 : HV} {w0 : World} {H H' : HV} {loc loc' : Nat → Loc} {w w' : World} {st st' : St} {a a' : Act} (r : Rel M H0 w0 nt H loc w st a) (r' : Rel ⟨Blk loc st.ob, st.ob.take st.n0, loc⟩ H w nt H' loc' w' st' a') : Rel M H0 w0 nt H' loc' w' st' a' := by
  have hb : ∀ b, Blk loc st.ob b → M.M b ∨ w0.heap.size ≤ b := fun b ⟨i, o, h1, h2, h3, h4⟩ => h4 ▸ r.own i o h1 h2 h3
  have hle : st.n0 ≤ st.ob.length := by
    rcases Nat.lt_or_ge st.ob.length st.n0 with h | h
    · obtain ⟨_, _, _, h2, _⟩ := r.n0_le st.ob.length h
      rw [List.getElem?_eq_none (Nat.le_refl _)] at h2
      cases h2
    · exact h
  have hn : st'.n0 = st.n0 := by have := r'.n0; simp at this; omega
  refine ⟨r'.sr, r'.tm, r'.sz, r'.df, r.gr.trans r'.gr hb, fun i o ho hl hr => ?_, by rw [hn]; exact r.n0, fun k o hk => ?_⟩
  · rcases r'.own i o ho hl hr with h | h
    · exact hb _ h
    · exact .inr (Nat.le_trans r.gr.size h)
  · have hk0 : k < st.n0 := by
      rw [← r.n0]
      rcases Nat.lt_or_ge k M.ob.length with h' | h'
      · exact h'
      · simp [List.getElem?_eq_none h'] at hk
    have ht : ∀ x, st.ob[k]? = some x → (st.ob.take st.n0)[k]? = some x := fun x hx => by rw [List.getElem?_take, if_pos hk0]; exact hx
    rcases r.ent k o hk with h1 | ⟨o1, h1, h2, h3⟩
    · rcases r'.ent k _ (ht _ h1) with h4 | ⟨o2, h4, h5, h6⟩
      · exact .inl h4
      · exact .inl (by rw [h4, shape_dead h5])
    · rcases r'.ent k _ (ht _ h1) with h4 | ⟨o2, h4, h5, h6⟩
      · exact .inl h4
      · exact .inr ⟨o2, h4, Ob.sameShape_trans h2 h5, h6.trans h3⟩

/-- Temporaries are forgotten. -/
theorem Rel.keepTs {M : En} {H0 : HV} {w0 : World} {H : HV} {loc : Nat → Loc} {w : World} {st : St} {a : Act} (r : Rel M H0 w0 nt H loc w st a) (ts : List Nat) : Rel M H0 w0 nt H loc w ⟨ofL (ts.map fun t => (t, st.tm t)), st.ob, st.n0⟩ a := by
  refine ⟨r.sr, fun t => ?_, r.sz, r.df, r.gr, r.own, r.n0, r.ent⟩
  have e : ofL (ts.map fun t => (t, st.tm t)) t = keepTm ts st.tm t := rfl
  show V H loc st.ob _ (ofL (ts.map fun t => (t, st.tm t)) t)
  rw [e]
  rcases keepTm_is ts st.tm t with h | h
  · rw [h]; exact r.tm t
  · rw [h]; exact .none _

/-- A block turns in which nothing lies that is known. -/
theorem Rel.other {M : En} {H0 : HV} {w0 : World} {H : HV} {loc : Nat → Loc} {w w' : World} {st : St} {a : Act} (r : Rel M H0 w0 nt H loc w st a) {b0 : Nat} (h1 : w'.os = w.os) (h2 : w'.tape = w.tape) (h3 : w'.output = w.output)
    (h4 : w'.heap.size = w.heap.size) (h5 : ∀ b, b ≠ b0 → w'.heap[b]? = w.heap[b]?) (h6 : ¬ Blk loc st.ob b0) (h7 : H b0 = none) (h8 : w0.heap.size ≤ b0) : Rel M H0 w0 nt H loc w' st a := by
  refine ⟨⟨fun b c hb => ?_, fun i o ho => ?_, r.sr.apart, r.sr.inj⟩, r.tm, r.sz, r.df, ⟨h1.trans r.gr.os, h2.trans r.gr.tape, h3.trans r.gr.output, by rw [h4]; exact r.gr.size, fun b hb hm => ?_, r.gr.more, r.gr.new⟩, r.own, r.n0, r.ent⟩
  · rw [h5 b (fun e => by subst e; rw [h7] at hb; cases hb)]
    exact r.sr.heap b c hb
  · cases hl : o.live with
    | false => cases o <;> first | trivial | cases hl
    | true => exact Ob.holds_turn (.refl H) (Turns.refl _ _) (fun hr => h5 _ fun e => h6 ⟨i, o, ho, hl, hr, e⟩) (r.sr.obj i o ho)
  · rw [h5 b (by omega)]
    exact r.gr.kept b hb hm

theorem blk_cut {loc : Nat → Loc} {ob : List Ob} {ids : List Nat} {b : Nat} (h : Blk (fun k => loc (ids.getD k 0)) (newObs ob ids) b) : Blk loc ob b := by
  obtain ⟨k, o, h1, h2, h3, h4⟩ := h
  obtain ⟨i, o', h5, rfl, h6⟩ := newObs_of h1
  have hl : loc (ids.getD k 0) = loc i := by simp [List.getD_eq_getElem?_getD, h5]
  dsimp only at h3 h4
  rw [hl] at h3 h4
  rw [renOb_live] at h2
  rcases h6 with h6 | rfl
  · exact ⟨i, o', h6, h2, h3, h4⟩
  · cases h2

/-- A range over a map: the body goes for each key, in any order; the map is let go. -/
theorem awp_range_map {Q : Exit → St → Prop} {st : St} {i1 i2 i4 bid b1 t0 t2 t3 t4 t5 t6 t7 n0 : Nat} {ty k e : TypeId} {l : List Oper} {o2 o3 o4 o5 o6 o7 : Oper} {y : Code} (n : Nat) (ts0 : List Nat)
    (hl : l.drop n = [o2]) (h2 : o2.op = .range ty (.tmp t0)) (d2 : o2.dst = some t2) (g2 : o2.guard = none)
    (h3 : o3.op = .next (.tmp t2) false) (d3 : o3.dst = some t3) (g3 : o3.guard = none) (h4 : o4.op = .extract (.tmp t3) 0) (d4 : o4.dst = some t4) (g4 : o4.guard = none)
    (h5 : o5.op = .entry (.tmp t2)) (d5 : o5.dst = some t5) (g5 : o5.guard = none) (h6 : o6.op = .extract (.tmp t5) 0) (d6 : o6.dst = some t6) (g6 : o6.guard = none) (h7 : o7.op = .assign (.tmp t6)) (d7 : o7.dst = some t7) (g7 : o7.guard = none)
    (n2 : t2 < nt) (n3 : t3 < nt) (n4 : t4 < nt) (n5 : t5 < nt) (n6 : t6 < nt) (n7 : t7 < nt) (n23 : t2 ≠ t3) (n24 : t2 ≠ t4) (hu : P.underlying ty = some (.map k e))
    (h : alist (aop P) nt l.toArray (l.take n) st fun s => ∃ (l0 : List (Nat × D)) (ob : List Ob) (id : Nat) (es : List (Value × PV)) (I : Value → (Value → Prop) → List (Nat × D) → List Ob → Prop),
      s = ⟨ofL l0, ob, n0⟩ ∧ ofL l0 t0 = .mp id ∧ ob[id]? = some (.map es) ∧ (∀ v, I v (fun _ => True) (ts0.map fun t => (t, ofL ((t2, .p (.lit v)) :: l0) t)) (ob.set id .dead ++ [.dead])) ∧ (∀ v todo l' ob', I v todo l' ob' → ofL l' t2 = .p (.lit v)) ∧
      (∀ v todo l' ob', I v todo l' ob' → (∀ kx, kx ∈ es → ¬ todo kx.1) → Q .normal ⟨ofL ((t4, bD false) :: (t3, .none) :: l'), ob', n0⟩) ∧
      (∀ v todo l' ob' kx, I v todo l' ob' → kx ∈ es → AWp P nt y (inBlock b1 (andThen (fun s' => ∃ ts ids l'' ob'', ids.Nodup ∧ (∀ k, k < s'.n0 → ids[k]? = some k) ∧ s'.cut ts ids = ⟨ofL l'', ob'', n0⟩ ∧ I v (fun q => todo q ∧ q ≠ kx.1) l'' ob'') (inBlock bid Q)))
        ⟨ofL ((t7, .p (.lit kx.1)) :: (t6, .p (.lit kx.1)) :: (t5, .none) :: (t4, bD true) :: (t3, .none) :: l'), ob', n0⟩)) :
    AWp P nt (.seq (.region i1 l.toArray false) (.block bid (.loop (.seq (.region i2 #[o3, o4] false) (.seq (.cond (.tmp t4) .skip (.exit bid)) (.block b1 (.seq (.region i4 #[o5, o6, o7] false) y))))))) Q st := by
  intro M H0 w0 w a hi
  have hset : ∀ (b : Act) (t : Nat) (v : Value), t < nt → b.tmps.size = nt → (b.put (some t) v).eval (.tmp t) = v := fun b t v ht hs => by
    show ((b.tmps.setIfInBounds t v).getD t undef) = v
    rw [Array.getD_eq_getD_getElem?, Array.getElem?_setIfInBounds]
    simp [hs, ht]
  have hsz : ∀ (b : Act) (t : Nat) (v : Value), (b.put (some t) v).tmps.size = b.tmps.size := fun b t v => by
    show (b.tmps.setIfInBounds t v).size = _
    simp
  have hlit : ∀ {H : HV} {loc : Nat → Loc} {w : World} {s : St} {b : Act} {t : Nat} {v : Value}, Rel M H0 w0 nt H loc w s b → s.tm t = .p (.lit v) → b.eval (.tmp t) = v := fun {H loc w s b t v} r hv => by
    have := r.tm t
    rw [hv] at this
    exact this.lit_inv
  -- what stands behind the region: a state, an iterator
  let T : Act → World → Prop := fun a' w' => ∃ (l0 : List (Nat × D)) (ob : List Ob) (id : Nat) (es : List (Value × PV)) (I : Value → (Value → Prop) → List (Nat × D) → List Ob → Prop) (rI bm clock : Nat) (arr : Array MapEntry) (H : HV) (loc : Nat → Loc),
      (∀ v todo l' ob', I v todo l' ob' → ofL l' t2 = .p (.lit v)) ∧
      (∀ v todo l' ob', I v todo l' ob' → (∀ kx, kx ∈ es → ¬ todo kx.1) → Q .normal ⟨ofL ((t4, bD false) :: (t3, .none) :: l'), ob', n0⟩) ∧
      (∀ v todo l' ob' kx, I v todo l' ob' → kx ∈ es → AWp P nt y (inBlock b1 (andThen (fun s' => ∃ ts ids l'' ob'', ids.Nodup ∧ (∀ k, k < s'.n0 → ids[k]? = some k) ∧ s'.cut ts ids = ⟨ofL l'', ob'', n0⟩ ∧ I v (fun q => todo q ∧ q ≠ kx.1) l'' ob'') (inBlock bid Q)))
        ⟨ofL ((t7, .p (.lit kx.1)) :: (t6, .p (.lit kx.1)) :: (t5, .none) :: (t4, bD true) :: (t3, .none) :: l'), ob', n0⟩) ∧
      I (.pointer (some ⟨rI, 0, none⟩)) (fun _ => True) l0 ob ∧ Rel M H0 w0 nt H loc w' ⟨ofL l0, ob, n0⟩ a' ∧ ¬ Blk loc ob rI ∧ ¬ Blk loc ob bm ∧ H bm = none ∧ w0.heap.size ≤ rI ∧ w'.heap[rI]? = some (.mapIter (some bm) clock #[] clock) ∧
      w'.heap[bm]? = some (.map arr clock) ∧ Born arr clock ∧ (∀ x, x ∈ arr.toList → ∃ p, (x.key, p) ∈ es) ∧ ∀ kx, kx ∈ es → ∃ x, x ∈ arr.toList ∧ x.key = kx.1
  have main : ∀ a' w', T a' w' → (Code.block bid (.loop (.seq (.region i2 #[o3, o4] false) (.seq (.cond (.tmp t4) .skip (.exit bid)) (.block b1 (.seq (.region i4 #[o5, o6, o7] false) y)))))).wp P (fun e a' w' => ∃ st', Q e st' ∧ Is M H0 w0 nt st' a' w') a' w' := by
    rintro a1 w1 ⟨l0, ob, id, es, I, rI, bm, clock, arr, H1, loc1, hI2, hIe, hIr, hI0, r1, hb1, hb2, hHb, hrI, hit, hmp, hborn, hk1, hk2⟩
    let v2 : Value := .pointer (some ⟨rI, 0, none⟩)
    have hne : rI ≠ bm := fun e => by rw [e, hmp] at hit; cases hit
    let J : Act → World → Prop := fun a' w' => ∃ (todo : Value → Prop) (l' : List (Nat × D)) (ob' : List Ob) (H : HV) (loc : Nat → Loc) (seen : Array Nat) (c0 : Nat), I v2 todo l' ob' ∧ Rel M H0 w0 nt H loc w' ⟨ofL l', ob', n0⟩ a' ∧ ¬ Blk loc ob' rI ∧ ¬ Blk loc ob' bm ∧ H bm = none ∧
      w'.heap[rI]? = some (.mapIter (some bm) clock seen c0) ∧ w'.heap[bm]? = some (.map arr clock) ∧ clock ≤ c0 ∧ ∀ x, x ∈ arr.toList → todo x.key → seen.contains x.born = false
    refine wp_block (wp_loop J (fun _ w' => (leftOf arr (w'.iterSeen rI)).size) ⟨fun _ => True, l0, ob, H1, loc1, #[], clock, hI0, r1, hb1, hb2, hHb, hit, hmp, Nat.le_refl _, fun x _ _ => by simp⟩ ?_)
    rintro a' w' ⟨todo, l', ob', H, loc, seen, c0, hI, r, hB1, hB2, hHm, hr, hm, hsc, htd⟩
    have hHr : H rI = none := by
      cases hx : H rI with
      | none => rfl
      | some c =>
        obtain ⟨c', e', f, h1, _⟩ := r.sr.heap rI c hx
        rw [hr] at h1; cases h1
    have hv2 : a'.eval (.tmp t2) = v2 := hlit r (hI2 _ _ _ _ hI)
    refine wp_seq (wp_region_lit (l := [o3, o4]) ?_)
    unfold wpList
    rw [if_pos (wants g3)]
    refine .inl ?_
    rcases run_next_at (P := P) w' o3.type rI bm clock c0 seen arr clock hr hm hborn.1 hsc with ⟨hz, e1⟩ | ⟨x, hx, w1, hw1, e1⟩
    · have x3 : (execOp a'.eval o3).run P w' = .ok (.value (.tuple #[.bool false])) w' := by
        simp [execOp, h3, hv2, v2, e1]
      unfold Oper.wp
      rw [x3, Oper.upon_value, d3]
      unfold wpList
      rw [if_pos (wants g4)]
      refine .inl ?_
      have r3 := r.put (dst := some t3) n3 (v := .tuple #[.bool false]) (d := .none) (.none _)
      have x4 : (execOp (a'.put (some t3) (.tuple #[.bool false])).eval o4).run P w' = .ok (.value (.bool false)) w' := by
        have e1 : (a'.put (some t3) (.tuple #[.bool false])).eval (.tmp t3) = .tuple #[.bool false] := hset a' t3 _ n3 r.sz
        simp [execOp, h4, e1, Instr.extract]
      unfold Oper.wp
      rw [x4, Oper.upon_value, d4]
      unfold wpList
      refine wp_seq ?_
      have r4 := r3.put (dst := some t4) n4 (v := .bool false) (d := bD false) (.p _ _ (.lit _))
      refine wp_cond_split (t := false) (hset _ t4 _ n4 r3.sz) (fun h => by cases h) (fun _ => wp_exit ?_)
      simp only [Exit.then, Exit.inBlock, if_true]
      refine ⟨_, hIe _ _ _ _ hI fun kx hkx htodo => ?_, H, loc, r4⟩
      obtain ⟨x, hx1, hx2⟩ := hk2 kx hkx
      have := htd x hx1 (by rw [hx2]; exact htodo)
      rw [all_seen arr seen hz x hx1] at this
      cases this
    · have hxm := mem_left hx
      obtain ⟨px, hpx⟩ := hk1 x hxm.1
      have hWr : ∀ (o' : Obj), (setBlock w1 rI o').heap[rI]? = some o' ∧ (∀ b, b ≠ rI → (setBlock w1 rI o').heap[b]? = w'.heap[b]?) ∧ (setBlock w1 rI o').heap.size = w'.heap.size ∧ (setBlock w1 rI o').os = w'.os ∧ (setBlock w1 rI o').tape = w'.tape ∧ (setBlock w1 rI o').output = w'.output := fun o' => by
        have hlt : rI < w1.heap.size := by
          have : w1.heap = w'.heap := by rcases hw1 with rfl | rfl <;> rfl
          rw [this]
          rcases Nat.lt_or_ge rI w'.heap.size with h' | h'
          · exact h'
          · simp [Array.getElem?_eq_none h'] at hr
        have hh : w1.heap = w'.heap := by rcases hw1 with rfl | rfl <;> rfl
        refine ⟨?_, fun b hb => ?_, ?_, ?_, ?_, ?_⟩
        · simp [setBlock, hlt]
        · simp only [setBlock, ← hh]
          rw [Array.getElem?_setIfInBounds, if_neg (fun e => hb e.symm)]
        · simp [setBlock, hh]
        · rcases hw1 with rfl | rfl <;> rfl
        · rcases hw1 with rfl | rfl <;> rfl
        · rcases hw1 with rfl | rfl <;> rfl
      obtain ⟨q1, q2, q3, q4, q5, q6⟩ := hWr (.mapIter (some bm) clock (seen.push x.born) clock)
      generalize setBlock w1 rI (.mapIter (some bm) clock (seen.push x.born) clock) = W at e1 q1 q2 q3 q4 q5 q6
      have rW := r.other q4 q5 q6 q3 q2 hB1 hHr hrI
      have x3 : (execOp a'.eval o3).run P w' = .ok (.value (.tuple #[.bool true, x.key, x.val])) W := by
        simp [execOp, h3, hv2, v2, e1]
      unfold Oper.wp
      rw [x3, Oper.upon_value, d3]
      unfold wpList
      rw [if_pos (wants g4)]
      refine .inl ?_
      have r3 := rW.put (dst := some t3) n3 (v := .tuple #[.bool true, x.key, x.val]) (d := .none) (.none _)
      have x4 : (execOp (a'.put (some t3) (.tuple #[.bool true, x.key, x.val])).eval o4).run P W = .ok (.value (.bool true)) W := by
        have e1 : (a'.put (some t3) (.tuple #[.bool true, x.key, x.val])).eval (.tmp t3) = .tuple #[.bool true, x.key, x.val] := hset a' t3 _ n3 r.sz
        simp [execOp, h4, e1, Instr.extract]
      unfold Oper.wp
      rw [x4, Oper.upon_value, d4]
      unfold wpList
      refine wp_seq ?_
      have r4 := r3.put (dst := some t4) n4 (v := .bool true) (d := bD true) (.p _ _ (.lit _))
      refine wp_cond_split (t := true) (hset _ t4 _ n4 r3.sz) (fun _ => wp_skip ?_) (fun h => by cases h)
      refine wp_block (wp_seq (wp_region_lit (l := [o5, o6, o7]) ?_))
      have hv4 : ((a'.put (some t3) (.tuple #[.bool true, x.key, x.val])).put (some t4) (.bool true)).eval (.tmp t2) = v2 := by
        refine hlit r4 ?_
        show (if t4 = t2 then _ else (if t3 = t2 then _ else ofL l' t2)) = _
        rw [if_neg (fun e => n24 e.symm), if_neg (fun e => n23 e.symm)]
        exact hI2 _ _ _ _ hI
      generalize (a'.put (some t3) (.tuple #[.bool true, x.key, x.val])).put (some t4) (.bool true) = a4 at r4 hv4
      have hWm : W.heap[bm]? = some (.map arr clock) := by rw [q2 bm (fun e => hne e.symm)]; exact hm
      unfold wpList
      rw [if_pos (wants g5)]
      refine .inl ?_
      have x5 : (execOp a4.eval o5).run P W = .ok (.value (.tuple #[x.key, x.val])) W := by
        have := run_entry_at (P := P) W rI bm clock seen arr clock x q1 hWm hxm.1 hborn.2
        simp [execOp, h5, hv4, v2, this]
      unfold Oper.wp
      rw [x5, Oper.upon_value, d5]
      unfold wpList
      rw [if_pos (wants g6)]
      refine .inl ?_
      have r5 := r4.put (dst := some t5) n5 (v := .tuple #[x.key, x.val]) (d := .none) (.none _)
      have x6 : (execOp (a4.put (some t5) (.tuple #[x.key, x.val])).eval o6).run P W = .ok (.value x.key) W := by
        have e1 : (a4.put (some t5) (.tuple #[x.key, x.val])).eval (.tmp t5) = .tuple #[x.key, x.val] := hset a4 t5 _ n5 r4.sz
        simp [execOp, h6, e1, Instr.extract]
      unfold Oper.wp
      rw [x6, Oper.upon_value, d6]
      unfold wpList
      rw [if_pos (wants g7)]
      refine .inl ?_
      have r6 := r5.put (dst := some t6) n6 (v := x.key) (d := .p (.lit x.key)) (.p _ _ (.lit _))
      generalize hA5 : a4.put (some t5) (.tuple #[x.key, x.val]) = a5 at r5 r6
      have x7 : (execOp (a5.put (some t6) x.key).eval o7).run P W = .ok (.value x.key) W := by
        have e1 : (a5.put (some t6) x.key).eval (.tmp t6) = x.key := hset a5 t6 _ n6 r5.sz
        simp [execOp, h7, e1]
      unfold Oper.wp
      rw [x7, Oper.upon_value, d7]
      unfold wpList
      have r7 := r6.put (dst := some t7) n7 (v := x.key) (d := .p (.lit x.key)) (.p _ _ (.lit _))
      generalize (a5.put (some t6) x.key).put (some t7) x.key = a7 at r7
      have hrun := hIr v2 todo l' ob' (x.key, px) hI hpx
      refine wp_mono (hrun _ _ _ W a7 ⟨H, loc, Rel.here r7⟩) ?_
      rintro ee a8 w8 ⟨st8, hq, H8, loc8, r8⟩
      have rr := Rel.back r7 r8
      have hrW : rI < W.heap.size := by
        rcases Nat.lt_or_ge rI W.heap.size with h' | h'
        · exact h'
        · simp [Array.getElem?_eq_none h'] at q1
      have hmW : bm < W.heap.size := by
        rcases Nat.lt_or_ge bm W.heap.size with h' | h'
        · exact h'
        · simp [Array.getElem?_eq_none h'] at hWm
      have keep : ∀ b, b < W.heap.size → ¬ Blk loc ob' b → w8.heap[b]? = W.heap[b]? ∧ ¬ Blk loc8 st8.ob b := fun b hb hnb => by
        refine ⟨r8.gr.kept b hb hnb, ?_⟩
        rintro ⟨i, o, g1, g2, g3, g4⟩
        rcases r8.own i o g1 g2 g3 with g | g
        · rw [g4] at g; exact hnb g
        · omega
      have k1 := keep rI hrW hB1
      have k2 := keep bm hmW hB2
      have hmore : (leftOf arr (seen.push x.born)).size < (leftOf arr seen).size := left_shrinks arr seen x hx
      have hs1 : w'.iterSeen rI = seen := by unfold World.iterSeen; rw [hr]
      have hs8 : w8.iterSeen rI = seen.push x.born := by unfold World.iterSeen; rw [k1.1, q1]
      have again : (∃ ts ids l'' ob'', ids.Nodup ∧ (∀ k, k < st8.n0 → ids[k]? = some k) ∧ st8.cut ts ids = ⟨ofL l'', ob'', n0⟩ ∧ I v2 (fun q => todo q ∧ q ≠ x.key) l'' ob'') → J a8 w8 ∧ (leftOf arr (w8.iterSeen rI)).size < (leftOf arr (w'.iterSeen rI)).size := by
        rintro ⟨ts, ids, l'', ob'', hd, hp, hcut, hI'⟩
        refine ⟨⟨_, l'', ob'', H8, fun k => loc8 (ids.getD k 0), seen.push x.born, clock, hI', ?_, ?_, ?_, ?_, by rw [k1.1]; exact q1, by rw [k2.1]; exact hWm, Nat.le_refl _, fun z hz hzt => ?_⟩, by rw [hs1, hs8]; exact hmore⟩
        · have hob : ob'' = newObs st8.ob ids := by have := congrArg St.ob hcut; exact this.symm
          obtain ⟨Hc, locc, rc⟩ := Is.cut ⟨H8, loc8, rr⟩ ts hd hp
          have := rr
          rw [← hcut]
          refine ⟨rr.sr.ren hd, fun t => ?_, rr.sz, rr.df, rr.gr, fun k o ho hv hr => ?_, rr.n0, fun k o ho => ?_⟩
          · have e : (st8.cut ts ids).tm t = keepTm ts (fun t => D.map (ren1 ids) (st8.tm t)) t := rfl
            rw [e]
            rcases keepTm_is ts (fun t => D.map (ren1 ids) (st8.tm t)) t with h | h
            · rw [h]; exact (rr.tm t).map (leafy_ren H8 loc8 st8.ob ids)
            · rw [h]; exact .none _
          · obtain ⟨i, o', hi, rfl, hx⟩ := newObs_of ho
            rw [renOb_live] at hv
            have hl : loc8 (ids.getD k 0) = loc8 i := by simp [List.getD_eq_getElem?_getD, hi]
            have hr2 : (loc8 (ids.getD k 0)).r = true := hr
            show M.M (loc8 (ids.getD k 0)).b ∨ _ ≤ (loc8 (ids.getD k 0)).b
            rw [hl] at hr2 ⊢
            rcases hx with hx | rfl
            · exact rr.own i o' hx hv hr2
            · cases hv
          · have hk : k < st8.n0 := by
              rw [← rr.n0]
              rcases Nat.lt_or_ge k M.ob.length with h' | h'
              · exact h'
              · simp [List.getElem?_eq_none h'] at ho
            have hk2 := hp k hk
            have hl : loc8 (ids.getD k 0) = loc8 k := by simp [List.getD_eq_getElem?_getD, hk2]
            rcases rr.ent k o ho with h1 | ⟨o', h1, h2, h3⟩
            · exact .inl (newObs_get hk2 h1)
            · refine .inr ⟨_, newObs_get hk2 h1, ?_, ?_⟩
              · cases o' <;> cases o <;> simp_all [Ob.sameShape, renOb, D.mapL_eq]
              · show loc8 (ids.getD k 0) = _
                rw [hl]; exact h3
        · have hob : ob'' = newObs st8.ob ids := by have := congrArg St.ob hcut; exact this.symm
          rw [hob]; exact fun h => k1.2 (blk_cut h)
        · have hob : ob'' = newObs st8.ob ids := by have := congrArg St.ob hcut; exact this.symm
          rw [hob]; exact fun h => k2.2 (blk_cut h)
        · cases hx8 : H8 bm with
          | none => rfl
          | some c =>
            obtain ⟨c', e', f, h1, _⟩ := rr.sr.heap bm c hx8
            rw [k2.1, hWm] at h1; cases h1
        · rw [contains_push, htd z hz hzt.1, Bool.false_or]
          cases hzb : z.born == x.born with
          | false => rfl
          | true =>
            have := born_inj hborn.2 hz hxm.1 (beq_iff_eq.1 hzb)
            exact absurd (congrArg MapEntry.key this) hzt.2
      cases ee with
      | normal => exact again hq
      | exit id' =>
        simp only [inBlock] at hq
        simp only [Exit.inBlock]
        split <;> rename_i hid
        · rw [if_pos hid] at hq; exact again hq
        · rw [if_neg hid] at hq
          simp only [Exit.then, Exit.inBlock]
          simp only [andThen, inBlock] at hq
          split <;> rename_i hid2
          · rw [if_pos hid2] at hq; exact ⟨_, hq, H8, loc8, rr⟩
          · rw [if_neg hid2] at hq; exact ⟨_, hq, H8, loc8, rr⟩
      | _ => exact ⟨_, hq, H8, loc8, rr⟩
  refine wp_seq (wp_region_lit ?_)
  have hspl : l = l.take n ++ [o2] := by rw [← hl, List.take_append_drop]
  have hfin : wpList P l.toArray (fun e a' w' => e = .normal ∧ T a' w') (l.take n ++ [o2]) a w := by
    refine alist_cutW (fun o st K h => aop_sound h) [o2] _ T ?_ (l.take n) st h a w hi
    rintro s a' w' ⟨l0, ob, id, es, I, rfl, ht0, hob, hI0, hI2, hIe, hIr⟩ ⟨H, loc, r⟩
    have hmv := r.tm t0
    dsimp only at hmv
    rw [ht0] at hmv
    have hev : a'.eval (.tmp t0) = .map (some (loc id).b) := by
      show a'.tmps.getD t0 undef = _
      generalize a'.tmps.getD t0 undef = v at hmv
      cases hmv with
      | mp _ es ho => rfl
      | mpGone _ _ ho => rw [hob] at ho; cases ho
    obtain ⟨hlr, arr, clock, hw, hrel, hborn⟩ := r.map_at hob
    unfold wpList
    rw [if_pos (wants g2)]
    refine .inl ?_
    have x2 : (execOp a'.eval o2).run P w' = .ok (.value (.pointer (some ⟨w'.heap.size, 0, none⟩))) (w'.alloc (.mapIter (some (loc id).b) clock #[] clock)) := by
      have e2 := run_range_map (P := P) w' ty k e (loc id).b arr clock hu hw
      simp [execOp, h2, hev, e2]
    unfold Oper.wp
    rw [x2, Oper.upon_value, d2]
    unfold wpList
    refine ⟨rfl, ?_⟩
    have rk := r.setOb (o' := .dead) (w' := w') hob rfl hlr trivial (fun _ _ => rfl) rfl rfl rfl rfl trivial
    have rp := rk.push (.mapIter (some (loc id).b) clock #[] clock) .dead 0 0 trivial
    have rq := rp.put (dst := some t2) n2 (v := .pointer (some ⟨w'.heap.size, 0, none⟩)) (d := .p (.lit (.pointer (some ⟨w'.heap.size, 0, none⟩)))) (.p _ _ (.lit _))
    have rq := rq.keepTs ts0
    have hlt : (loc id).b < w'.heap.size := by
      rcases Nat.lt_or_ge (loc id).b w'.heap.size with h' | h'
      · exact h'
      · simp [Array.getElem?_eq_none h'] at hw
    have hidl : id < ob.length := by
      rcases Nat.lt_or_ge id ob.length with h' | h'
      · exact h'
      · simp [List.getElem?_eq_none h'] at hob
    have hblk : ∀ b, Blk (locPush loc (ob.set id .dead).length ⟨w'.heap.size, 0, 0, true⟩) (ob.set id .dead ++ [.dead]) b → b < w'.heap.size ∧ b ≠ (loc id).b := by
      rintro b ⟨i, o, g1, g2, g3, g4⟩
      have hil : i < (ob.set id .dead).length := by
        rcases Nat.lt_trichotomy i (ob.set id Ob.dead).length with hlt | heq | hgt
        · exact hlt
        · subst heq; rw [List.getElem?_append_right (Nat.le_refl _)] at g1; simp at g1; rw [← g1] at g2; cases g2
        · rw [List.getElem?_eq_none (by simp at hgt ⊢; omega)] at g1; cases g1
      have hle : locPush loc (ob.set id .dead).length ⟨w'.heap.size, 0, 0, true⟩ i = loc i := if_neg (by omega)
      rw [hle] at g3 g4
      rw [List.getElem?_append_left hil, List.getElem?_set] at g1
      split at g1
      · rename_i hid; subst hid; simp [hidl] at g1; rw [← g1] at g2; cases g2
      · rename_i hid
        have := r.sr.live_lt g1 g2 g3
        refine ⟨by rw [← g4]; exact this, fun e => hid ?_⟩
        exact (r.sr.inj i id o _ g1 hob g2 rfl g3 hlr (by rw [g4, e])).symm
    obtain ⟨m1, m2⟩ := hrel.to
    refine ⟨_, _, id, es, I, w'.heap.size, (loc id).b, clock, arr, H, _, hI2, hIe, hIr, hI0 _, rq, fun hb => by have := (hblk _ hb).1; omega, fun hb => (hblk _ hb).2 rfl, r.sr.apart id _ hob rfl hlr, r.gr.size, heap_alloc_new w' _, by rw [heap_alloc_old w' _ hlt]; exact hw, hborn, fun x hx => ?_, fun kx hkx => ?_⟩
    · obtain ⟨i, hi⟩ := List.mem_iff_getElem?.1 hx
      have hlt2 : i < es.length := by
        rw [← m1]
        rcases Nat.lt_or_ge i arr.toList.length with h' | h'
        · exact h'
        · simp [List.getElem?_eq_none h'] at hi
      obtain ⟨x', y1, y2, _⟩ := m2 i es[i].1 es[i].2 (List.getElem?_eq_getElem hlt2)
      rw [hi] at y1
      cases y1
      exact ⟨es[i].2, by rw [y2]; exact List.getElem_mem hlt2⟩
    · obtain ⟨i, hi⟩ := List.mem_iff_getElem?.1 hkx
      obtain ⟨x', y1, y2, _⟩ := m2 i kx.1 kx.2 hi
      exact ⟨x', List.mem_of_getElem? y1, y2⟩
  rw [← hspl] at hfin
  refine wpList_mono ?_ hfin
  rintro e a' w' ⟨rfl, hT⟩
  exact main a' w' hT
end
end Go.Ab

/- Reached and apart, of what was carried over: contracts. -/
namespace Go.Proofs.Ytagphggcdmjlpaa.P
open Go.Ab Go.Proofs.Ytagphggcdmjlpaa.T

/-- Words whose objects were carried over. -/
theorem ShrK.obj {g b : List Int} {mv : List (Int × Int)} {w0 w : Int} (hs : ShrK g b mv w0) (hk : KnownK mv w) (hi : (placeS w).2.1 = true) :
    ∃ (n : Nat) (o : Obj), (placeS w).1 = n ∧ atS g (placeS w).1 = (o, 0) ∧ o.parts.length ≤ 4000 ∧ (∀ p, p ∈ o.parts → KnownK mv p) ∧ ACallP Try.prog 61 [words g, iD n] (.tup [objD o, bD true]) := by
  obtain ⟨x, hx⟩ := hk.2 hi
  obtain ⟨t, q, o, _, _, t3, _, _, _, _, _, t9⟩ := hs.to hx
  obtain ⟨n, e1, e2, e3, e4, e5⟩ := obj_of hs.g4 hs.go t3
  exact ⟨n, o, e1, t3, (parts_mem hs.g4 hs.go t3).2, t9, objectAt g n o hs.g4 e3.1 e3.2.1 e2 e4 e5⟩


set_option maxRecDepth 100000 in
theorem reached (g b : List Int) (mv : List (Int × Int)) (w0 : Int) (hs : ShrK g b mv w0) :
    ACalls Try.prog 64 [words g, .ref 0 0 1, iD 0] [.row 1 [wrow w0]] (fun r obs' => ∃ S, r = .mp 1 ∧ obs' = [.row 1 [wrow w0], .map (embS S)] ∧ ∀ a, a ∈ S ↔ ReachK g w0 a) := by
  refine acallm_fn [6] Try.func64 rfl rfl Try.ntmps64 (by simp) (by simp) fun R hR => ?_
  (refine awp_reg_seq [0, 1, 2] fun K hK => ?_; (repeat' ((refine al_r rfl fun K' hK' => ?_); (repeat (simp only [go_sem, simprocAttr, bne_self_eq_false])); ((refine hK' _ _ ?_) <;> clear hK' K'))); all_goals (refine al_nil ?_; (simp only [go_sem, simprocAttr, bne_self_eq_false]); refine hK _ ?_; clear hK K))
  (refine awp_reg_seq [0, 1, 2, 7] fun K hK => ?_; (repeat' ((refine al_r rfl fun K' hK' => ?_); (repeat (simp only [go_sem, simprocAttr, bne_self_eq_false])); ((refine hK' _ _ ?_) <;> clear hK' K'))); all_goals (refine al_nil ?_; (simp only [go_sem, simprocAttr, bne_self_eq_false]); refine hK _ ?_; clear hK K))
  refine awp_seq_k fun K hK => ?_
  (refine awp_reg_seq [0, 2, 7, 8] fun K hK => ?_; (repeat' ((refine al_r rfl fun K' hK' => ?_); (repeat (first | (simp only [go_sem, simprocAttr, bne_self_eq_false]) | refine AAp.grow ?_)); ((first | refine hK' _ _ ?_ | refine ⟨?_, hK' _ _ ?_⟩) <;> clear hK' K' <;> (first | (show alist _ _ _ _ _ _; skip) | (simp; done))))); all_goals (refine al_nil ?_; (simp only [go_sem, simprocAttr, bne_self_eq_false]); refine hK _ ?_; clear hK K))
  refine awp_block ?_
  -- loop 0 head [0, 2, 7, 8]
  refine awp_loop_cut (fun m s => ∃ (T S : List Int) (junk : List (List PV)), RInv g w0 T S ∧ (∀ w, w ∈ T → KnownK mv w) ∧ m = (g.length + 1 - S.length) * 5000 + T.length ∧ T.length ≤ 1 + 4000 * S.length ∧ s = ⟨ofL [(0, words g), (2, iD 0), (7, .mp 1), (8, .ref 2 0 T.length)], [.row 1 [wrow w0], .map (embS S), .row 1 (T.map wrow ++ junk)], 1⟩) ⟨_, [w0], [], [], RInv.start g w0, (fun w hw => by rcases List.mem_singleton.1 hw with rfl; exact hs.kn), rfl, by simp, rfl⟩ ?_
  rintro m s ⟨T, S, junk, hi, hk, hm, hL, rfl⟩
  have hSb := hi.bound
  have hg4 := hs.g4
  refine awp_seq_k fun K hK => ?_
  (refine awp_reg_seq [0, 2, 7, 8, 19] fun K hK => ?_; (repeat' ((refine al_r rfl fun K' hK' => ?_); (repeat (simp only [go_sem, simprocAttr, bne_self_eq_false])); ((first | refine hK' _ _ ?_ | refine ⟨?_, hK' _ _ ?_⟩) <;> clear hK' K' <;> (first | (show alist _ _ _ _ _ _; skip) | (intro s hs; cases hs; done))))); all_goals (refine al_nil ?_; (simp only [go_sem, simprocAttr, bne_self_eq_false]); refine hK _ ?_; clear hK K))
  refine awp_if (decide ((T.length : Int) > 0)) rfl (fun hc => ?_) (fun hc => ?_)
  · refine awp_skip ?_
    refine hK _ ?_; clear hK K
    refine awp_block ?_
    obtain ⟨T', w, rfl⟩ : ∃ T' w, T = T' ++ [w] := by
      rcases List.eq_nil_or_concat T with h | ⟨T', w, h⟩
      · rw [h] at hc; simp at hc
      · exact ⟨T', w, by rw [h]; simp⟩
    clear hc
    have hkw : KnownK mv w := hk w (List.mem_append_right _ (List.mem_singleton.2 rfl))
    have hk' : ∀ x, x ∈ T' → KnownK mv x := fun x hx => hk x (List.mem_append_left _ hx)
    have hi' : RInv g w0 (w :: T') S := hi.mem fun x => by simp [or_comm]
    clear hi hk
    have h0 : (readS w).2.2 = 0 := hkw.1
    obtain ⟨tg, htg⟩ : ∃ tg, (readS w).1 = tg := ⟨_, rfl⟩
    obtain ⟨n, hn⟩ : ∃ n, (readS w).2.1 = n := ⟨_, rfl⟩
    have hrS : readS w = (tg, n, 0) := by rw [← htg, ← hn, ← h0]
    have hrd := tagReadS hrS
    have hTl : (T' ++ [w]).length = T'.length + 1 := by simp
    rw [hTl] at hm hL
    have hget : (T'.map wrow ++ [wrow w] ++ junk)[T'.length]? = some (wrow w) := by simp
    have hpi : (placeS w).2.1 = (tg == 4) := by show ((readS w).2.2 == 0 && (readS w).1 == 4) = _; rw [h0, htg]; rfl
    have hpn : (placeS w).1 = n := hn
    obtain ⟨X, hX⟩ : ∃ X, (tg != 4) = X := ⟨_, rfl⟩
    obtain ⟨Z, hZ⟩ : ∃ Z, decide (n < 0) = Z := ⟨_, rfl⟩
    obtain ⟨Y, hY⟩ : ∃ Y, decide (n ∈ S) = Y := ⟨_, rfl⟩
    have hXZ : X = true ∨ (X = false ∧ Z = false) := by
      cases hx : X with
      | true => exact .inl rfl
      | false =>
        rw [hx] at hX
        have h4 : tg = 4 := by simpa using hX
        obtain ⟨k, _, e1, _⟩ := hs.obj hkw (by rw [hpi, h4]; rfl)
        rw [hpn] at e1
        exact .inr ⟨rfl, by rw [← hZ, e1]; exact decide_eq_false (by omega)⟩
    have hmg : mget (embS S) n = if Y = true then some (.lit (.bool true)) else none := by rw [mget_embS, ← hY]; simp
    have hkeys := embS_keys S
    have hlw : IntKind.i64.wrap (((T'.length + 1 : Nat) : Int) - 1) = (T'.length : Int) := by rw [Go.Ab.wrap_small (by omega) (by omega)]; omega
    have hnn : (0 : Int) ≤ (T'.length : Int) := Int.natCast_nonneg _
    have hnl : (T'.length : Int) < ((T'.length + 1 : Nat) : Int) := by omega
    have hnl1 : T'.length < T'.length + 1 := by omega
    have hnl2 : (T'.length : Int) ≤ ((T'.length + 1 : Nat) : Int) := by omega

    (refine awp_reg_seq [0, 2, 7, 8, 9, 10, 11] fun K hK => ?_; (repeat' ((refine al_r rfl fun K' hK' => ?_); (repeat (simp only [go_sem, simprocAttr, hget, hlw, hnn, hnl, hnl1, hnl2, Nat.zero_add, Int.toNat_natCast, Nat.sub_zero])); (first | ((first | refine hK' _ _ ?_ | refine ⟨?_, hK' _ _ ?_⟩) <;> clear hK' K' <;> (first | (show alist _ _ _ _ _ _; skip) | (intro s hs; cases hs; done))) | ((show AC _ _ (D.fn 60 _) _ _); refine acall_p (f := 60) (e := rfl) (hr := rfl) (k := hK' _ _ ?_) (hc := Try.call60) (h := hrd); clear hK' K')))); all_goals (refine al_nil ?_; (simp only [go_sem, simprocAttr, hget, hlw, hnn, hnl, hnl1, hnl2, Nat.zero_add, Int.toNat_natCast, Nat.sub_zero]); refine hK _ ?_; clear hK K))
    (refine awp_reg_seq [0, 2, 7, 8, 9, 10, 11] fun K hK => ?_; (repeat' ((refine al_r rfl fun K' hK' => ?_); (repeat (simp only [go_sem, simprocAttr, hget, hlw, hnn, hnl, hnl1, hnl2, Nat.zero_add, Int.toNat_natCast, Nat.sub_zero])); ((first | refine hK' _ _ ?_ | refine ⟨?_, hK' _ _ ?_⟩ | refine ⟨?_, ?_, hK' _ _ ?_⟩) <;> clear hK' K' <;> (first | (show alist _ _ _ _ _ _; skip) | (intro s hs; cases hs; done) | omega)))); all_goals (refine al_nil ?_; (simp only [go_sem, simprocAttr, hget, hlw, hnn, hnl, hnl1, hnl2, Nat.zero_add, Int.toNat_natCast, Nat.sub_zero]); refine hK _ ?_; clear hK K))
    refine awp_seq_k fun K hK => ?_

    refine awp_reg_tov [0, 2, 7, 8, 10, 51] [(51, bD (X || Y))] (h := ?_) (k := ?_)
    · rcases hXZ with rfl | ⟨rfl, rfl⟩ <;> cases Y
      all_goals ((repeat' (first | ((first | refine al_r rfl fun K' hK' => ?_ | refine al_t rfl rfl fun K' hK' => ?_); (repeat (simp only [go_sem, simprocAttr, hX, hZ, hmg, hkeys, bne_self_eq_false])); ((refine hK' _ _ ?_) <;> clear hK' K')) | refine al_e rfl rfl ?_)); all_goals (refine al_nil ?_; (simp only [go_sem, simprocAttr, hX, hZ, hmg, hkeys, bne_self_eq_false, *, Bool.and_true, Bool.and_false, Bool.true_and, Bool.false_and, Bool.or_true, Bool.true_or, Bool.or_false, Bool.false_or, Bool.not_true, Bool.not_false, Bool.false_eq_true]; done)))
    (intro K hK; (simp only [go_sem, simprocAttr, hX, hZ, hmg, hkeys, bne_self_eq_false]); refine hK _ ?_; clear hK K)
    refine awp_if (X || Y) rfl (fun hc => ?_) (fun hc => ?_)
    · have hgo1 : RInv g w0 T' S := hi'.skip ⟨h0, fun hp => by
        rw [hpi, beq_iff_eq] at hp
        have hXf : X = false := by rw [← hX, hp]; rfl
        rw [hXf, Bool.false_or] at hc
        rw [hc, decide_eq_true_eq] at hY
        rw [hpn]; exact hY⟩
      refine awp_exit ?_
      (exact ⟨(g.length + 1 - S.length) * 5000 + T'.length, by omega, [0, 2, 7, 8], [0, 1, 2], by decide, (fun q hq => by have : q = 0 := Nat.lt_one_iff.1 hq; subst this; rfl), T', S, wrow w :: junk, hgo1, hk', rfl, by omega, by simp only [List.append_assoc]; rfl⟩)
    · have hXf : X = false := by cases X with | false => rfl | true => cases hc
      have hYf : Y = false := by cases Y with | false => rfl | true => rw [hXf] at hc; cases hc
      have ht4 : tg = 4 := by rw [hXf] at hX; simpa using hX
      have hnS : n ∉ S := by rw [hYf] at hY; simpa using hY
      have hp1 : (placeS w).2.1 = true := by rw [hpi, ht4]; rfl
      obtain ⟨nn, o, e1, hA, hpl, hkp, hob⟩ := hs.obj hkw hp1
      rw [hpn] at e1
      rw [← e1] at hob
      have hms := mset_embS hnS
      have hgo2 : RInv g w0 (T' ++ o.parts) (S ++ [n]) := by
        have := hi'.new hg4 hs.go hkw.1 hp1 (by rw [hpn]; exact hnS) hA
        rw [hpn] at this
        exact this
      have hk2 : ∀ x, x ∈ T' ++ o.parts → KnownK mv x := fun x hx => (List.mem_append.1 hx).elim (hk' x) (hkp x)
      have hb2 := hgo2.bound
      rw [List.length_append, List.length_singleton] at hb2
      obtain ⟨S2, hS2⟩ : ∃ S2, S2 = S ++ [n] := ⟨_, rfl⟩
      have hS2l : S2.length = S.length + 1 := by rw [hS2]; simp
      rw [← hS2] at hms hgo2
      have hdt : List.take T'.length (T'.map wrow ++ [wrow w] ++ junk) = T'.map wrow := by
        rw [List.append_assoc]
        exact List.take_left' (by simp)
      have hfp : (T'.length + o.parts.length) * 8 ≤ 140737488355328 := by omega
      have hpw := wrow1 o.parts

      refine awp_skip ?_
      refine hK _ ?_; clear hK K
      (refine awp_reg_seq [0, 2, 7, 8, 10] fun K hK => ?_; (repeat' ((first | refine al_r rfl fun K' hK' => ?_ | refine al_d rfl fun K' hK' => ?_); (repeat (simp only [go_sem, simprocAttr, hkeys, hms, hdt, hfp, hpw, List.length_map, List.drop_zero])); ((refine hK' _ _ ?_) <;> clear hK' K'))); all_goals (refine al_nil ?_; (simp only [go_sem, simprocAttr, hkeys, hms, hdt, hfp, hpw, List.length_map, List.drop_zero]); refine hK _ ?_; clear hK K))
      (refine awp_reg_seq [0, 2, 7, 8, 12] fun K hK => ?_; (repeat' ((first | refine al_r rfl fun K' hK' => ?_ | refine al_d rfl fun K' hK' => ?_); (repeat (first | (simp only [go_sem, simprocAttr, hkeys, hms, hdt, hfp, hpw, List.length_map, List.drop_zero]) | refine AS.mk ?_)); (first | ((first | refine hK' _ _ ?_ | refine ⟨?_, hK' _ _ ?_⟩) <;> clear hK' K' <;> (first | (show alist _ _ _ _ _ _; skip) | (simp; done))) | ((show AC _ _ (D.fn 61 _) _ _); refine acall_p (f := 61) (e := rfl) (hr := rfl) (k := hK' _ _ ?_) (hc := Try.call61) (h := hob); clear hK' K')))); all_goals (refine al_nil ?_; (simp only [go_sem, simprocAttr, hkeys, hms, hdt, hfp, hpw, List.length_map, List.drop_zero]); refine hK _ ?_; clear hK K))
      (refine awp_reg_end [0, 2, 7, 8] fun K hK => ?_; (repeat' ((refine al_r rfl fun K' hK' => ?_); (repeat (first | (simp only [go_sem, simprocAttr, hkeys, hms, hdt, hfp, hpw, List.length_map, List.drop_zero]) | refine AAp.grow ?_)); ((first | refine hK' _ _ ?_ | refine ⟨?_, ?_, hK' _ _ ?_⟩) <;> clear hK' K' <;> (first | (show alist _ _ _ _ _ _; skip) | assumption | omega)))); all_goals (refine al_nil ?_; (simp only [go_sem, simprocAttr, hkeys, hms, hdt, hfp, hpw, List.length_map, List.drop_zero]); refine hK _ ?_; clear hK K))
      (exact ⟨(g.length + 1 - S2.length) * 5000 + (T' ++ o.parts).length, by rw [hS2l, List.length_append]; omega, [0, 2, 7, 8], [0, 1, 4], by decide, (fun q hq => by have : q = 0 := Nat.lt_one_iff.1 hq; subst this; rfl), T' ++ o.parts, S2, [], hgo2, hk2, rfl, by rw [hS2l, List.length_append]; omega, by simp only [List.length_append, List.map_append, List.append_nil]; rfl⟩)

  · obtain rfl : T = [] := by
      cases T with
      | nil => rfl
      | cons w L' => simp at hc
    refine awp_exit ?_
    clear hK
    refine hK _ ?_; clear hK K
    (refine awp_reg_seq [6] fun K hK => ?_; (repeat' ((refine al_r rfl fun K' hK' => ?_); (repeat (simp only [go_sem, simprocAttr, bne_self_eq_false])); ((refine hK' _ _ ?_) <;> clear hK' K'))); all_goals (refine al_nil ?_; (simp only [go_sem, simprocAttr, bne_self_eq_false]); refine hK _ ?_; clear hK K))
    refine awp_ret (hR _ _ [0, 1] (.inl rfl) rfl (by decide) (by simp only [List.length_cons, List.length_nil]; decide) ?_)
    refine ⟨S, ?_, ?_, hi.all.1⟩ <;> simp only [go_sem, simprocAttr, bne_self_eq_false]


set_option maxRecDepth 100000 in
theorem apartC (g b : List Int) (mv : List (Int × Int)) (w0 : Int) (lo : List Obj) (hlo : lo.length ≤ maxLen) (hs : ShrK g b mv w0) (hob : ACallP Try.prog 15 [words g] (.tup [objs lo, iD 0])) :
    ACalls Try.prog 31 [words g, wD w0] [] (fun r obs' => (∃ B, r = bD B ∧ (B = true → ∀ a, ReachK g w0 a → (lo.any fun o => o.at_ == a) = true)) ∧ obs' = []) := by
  have hre := reached g b mv w0 hs
  refine acallm_fn [4] Try.func31 rfl rfl Try.ntmps31 (by simp) (by simp) fun R hR => ?_
  (refine awp_reg_seq [0, 1] fun K hK => ?_; (repeat' ((refine al_r rfl fun K' hK' => ?_); (repeat (simp only [go_sem, simprocAttr])); ((refine hK' _ _ ?_) <;> clear hK' K'))); all_goals (refine al_nil ?_; (simp only [go_sem, simprocAttr]); refine hK _ ?_; clear hK K))
  (refine awp_reg_seq [0, 1, 5, 6] fun K hK => ?_; (repeat' ((refine al_r rfl fun K' hK' => ?_); (repeat (simp only [go_sem, simprocAttr])); (first | ((refine hK' _ _ ?_) <;> clear hK' K') | ((show AC _ _ (D.fn 15 _) _ _); refine acall_p (f := 15) (e := rfl) (hr := rfl) (k := hK' _ _ ?_) (hc := Try.call15) (h := hob); clear hK' K')))); all_goals (refine al_nil ?_; (simp only [go_sem, simprocAttr]); refine hK _ ?_; clear hK K))
  refine awp_seq_k fun K hK => ?_
  refine awp_range_map (n0 := 0) 4 [5, 6, 17] rfl rfl rfl rfl rfl rfl rfl rfl rfl rfl rfl rfl rfl rfl rfl rfl rfl rfl rfl (by decide) (by decide) (by decide) (by decide) (by decide) (by decide) (by decide) (by decide) (k := 3) (e := 4) (by kernel_rfl) ?_
  simp only [List.take_succ_cons, List.take_zero]
  (repeat' ((refine al_r rfl fun K' hK' => ?_); (repeat (simp only [go_sem, simprocAttr])); (first | ((refine hK' _ _ ?_) <;> clear hK' K') | ((show AC _ _ (D.fn 64 _) _ _); refine acall_m (f := 64) [0] Try.call64 hre rfl rfl (by decide) (by simp) ?_; rintro r obs' ⟨S, rfl, rfl, hS⟩; refine ⟨by simp, ?_⟩; (simp only [go_sem, simprocAttr]); refine hK' _ _ ?_; clear hK' K'))))
  refine al_nil ?_
  refine ⟨_, _, 1, embS S, fun v todo l' ob' => (∀ a, a ∈ S → ¬ todo (.int .i64 a) → (lo.any fun o => o.at_ == a) = true) ∧ l' = [(5, objs lo), (6, iD 0), (17, .p (.lit v))] ∧ ob' = [.row 1 [wrow w0], .dead, .dead], rfl, rfl, rfl, fun v => ⟨fun a _ h => absurd trivial h, rfl, rfl⟩, ?_, ?_, ?_⟩
  · rintro v todo l' ob' ⟨_, rfl, rfl⟩; rfl
  rotate_left
  · rintro v todo l' ob' kx ⟨hS1, rfl, rfl⟩ hkx
    obtain ⟨a, haS, rfl⟩ := List.mem_map.1 hkx
    have hbe := beginsR lo hlo a
    obtain ⟨B, hB⟩ : ∃ B, (lo.any fun o => o.at_ == a) = B := ⟨_, rfl⟩
    rw [hB] at hbe
    (refine awp_reg_seq [5, 6, 17, 29] fun K hK => ?_; (repeat' ((first | refine al_r rfl fun K' hK' => ?_ | refine al_t rfl rfl fun K' hK' => ?_); (repeat (simp only [go_sem, simprocAttr])); (first | ((refine hK' _ _ ?_) <;> clear hK' K') | ((show AC _ _ (D.fn 36 _) _ _); refine acall_p (f := 36) (e := rfl) (hr := rfl) (k := hK' _ _ ?_) (hc := Try.call36) (h := hbe); clear hK' K')))); all_goals (refine al_nil ?_; (simp only [go_sem, simprocAttr]); refine hK _ ?_; clear hK K))
    refine awp_if (!B) rfl (fun hc => ?_) (fun hc => ?_)
    · (refine awp_reg_seq [4] fun K hK => ?_; (repeat' ((refine al_r rfl fun K' hK' => ?_); (repeat (simp only [go_sem, simprocAttr])); ((refine hK' _ _ ?_) <;> clear hK' K'))); all_goals (refine al_nil ?_; (simp only [go_sem, simprocAttr]); refine hK _ ?_; clear hK K))
      refine awp_ret (hR _ _ [] (.inl rfl) rfl (by decide) (by simp only [List.length_cons, List.length_nil]; decide) ?_)
      have hBf : B = false := by simpa using hc
      refine ⟨⟨false, ?_, fun h => by cases h⟩, ?_⟩ <;> simp only [go_sem, simprocAttr]
    · refine awp_skip ?_
      have hBt : B = true := by simpa using hc
      simp only [go_sem, simprocAttr]
      refine ⟨[5, 6, 17], [0, 1, 2], _, _, by decide, (fun q hq => absurd hq (Nat.not_lt_zero q)), rfl, fun a2 ha2 hn => ?_, rfl, rfl⟩
      by_cases e : a2 = a
      · rw [e, hB]; exact hBt
      · exact hS1 a2 ha2 fun ht => hn ⟨ht, fun h => e (by cases h; rfl)⟩
  rintro v todo l' ob' ⟨hS1, rfl, rfl⟩ hall
  refine hK _ ?_; clear hK K
  (refine awp_reg_seq [4] fun K hK => ?_; (repeat' ((refine al_r rfl fun K' hK' => ?_); (repeat (simp only [go_sem, simprocAttr])); ((refine hK' _ _ ?_) <;> clear hK' K'))); all_goals (refine al_nil ?_; (simp only [go_sem, simprocAttr]); refine hK _ ?_; clear hK K))
  refine awp_ret (hR _ _ [] (.inl rfl) rfl (by decide) (by simp only [List.length_cons, List.length_nil]; decide) ?_)
  refine ⟨⟨true, ?_, fun _ a ha => hS1 a ((hS a).2 ha) (hall (.int .i64 a, .lit (.bool true)) (List.mem_map.2 ⟨a, (hS a).2 ha, rfl⟩))⟩, ?_⟩ <;> simp only [go_sem, simprocAttr]
end Go.Proofs.Ytagphggcdmjlpaa.P

/- slices.Sort of ints, as a call over objects: out of the kit's contract. -/
namespace Go.Ab
open Go.Proofs Go.Shelf Go.Sort

abbrev srt (zs : List Int) : List Int := zs.mergeSort fun x y => decide (x ≤ y)

theorem Sr.wider {H : HV} {loc : Nat → Loc} {obs : List Ob} {w w' : World} (h : Sr H loc obs w) (hw : ∀ b, b < w.heap.size → w'.heap[b]? = w.heap[b]?) : Sr H loc obs w' where
  heap := fun b c hb => by rw [hw b (h.H_lt hb)]; exact h.heap b c hb
  obj := fun i o ho => by
    cases hl : o.live with
    | false => cases o <;> first | trivial | cases hl
    | true => exact Ob.holds_turn (.refl H) (Turns.refl _ _) (fun hr => hw _ (h.live_lt ho hl hr)) (h.obj i o ho)
  apart := h.apart
  inj := h.inj

theorem sort_calls {P : Program} {ρ : Ren} (L : Lays.n189 P ρ) (zs : List Int) (hz : zs.length < 4611686018427387904) (hne : zs ≠ []) :
    ACalls P (ρ.f 189) [.ref 0 0 zs.length] [.row 1 (zs.map fun z => [.lit (.int .i64 z)])] (fun r obs' => r = .tup [] ∧ obs' = [.row 1 ((srt zs).map fun z => [.lit (.int .i64 z)])]) := by
  intro H loc w vs hsr hsz hvs
  have hpos : 0 < zs.length := List.length_pos_iff.2 hne
  obtain ⟨v, rfl⟩ : ∃ v, vs = #[v] := by
    obtain ⟨l⟩ := vs
    match l, hsz with
    | [v], _ => exact ⟨v, rfl⟩
  have hv := hvs 0 v (.ref 0 0 zs.length) rfl rfl
  have hlen : (srt zs).length = zs.length := List.length_mergeSort zs
  generalize hd : D.ref 0 0 zs.length = d at hv
  cases hv <;> first | (cases hd; done) | skip
  case ref id off len cap s xs ho hl hc hx hr hn =>
    cases hd
    simp only [List.getElem?_cons_zero, Option.some.injEq, Ob.row.injEq] at ho
    obtain ⟨rfl, rfl⟩ := ho
    have hob := hsr.obj 0 _ rfl
    rcases hob with ⟨hx, _⟩ | ⟨_, c, ec, h1, h2, h3, h4, h5⟩
    · rw [hr] at hx; cases hx
    simp only [List.length_map, Nat.mul_one] at h3
    have hcell : ∀ j, j < zs.length → c[(loc 0).o + j]? = some (.int .i64 zs[j]!) := fun j hj => by
      obtain ⟨u, a1, _, a3⟩ := h5 j [.lit (.int .i64 zs[j]!)] (by rw [List.getElem?_map, List.getElem?_eq_getElem hj, getElem!_pos zs j hj]; rfl) 0 _ rfl
      cases a3
      simpa using a1
    have hblk : (loc 0).b < w.heap.size := hsr.live_lt (i := 0) rfl rfl hr
    have hH : Holds (Value.int .i64) w (loc 0).b (loc 0).o zs.toArray := fun j hj => by
      have hj' : j < zs.length := by simpa using hj
      refine ⟨?_, by simp [World.frozen?, h1]⟩
      simp only [World.cell?, h1, Option.isSome_none, Bool.false_eq_true, if_false]
      rw [hcell j hj']
      simp
    have hcall := Any.slices_Sort_int L (loc 0).b (loc 0).o cap zs w hH hblk hz
    simp only [Nat.zero_mul, Nat.add_zero]
    refine hcall.mono fun e w' ⟨he, n, os, hw'⟩ => ?_
    have hp : (putRow (Value.int .i64) (Sort.ahead w n) (loc 0).b (loc 0).o (srt zs).toArray).heap[(loc 0).b]? = some (.cells (putCells (Value.int .i64) (loc 0).o (srt zs).toArray c) ec (0, 0)) := by
      unfold putRow mapBlock
      simp only [Array.getElem?_modify, if_pos]
      show Option.map _ w.heap[(loc 0).b]? = _
      rw [h1]
      rfl
    have ho2 : ∀ b, b ≠ (loc 0).b → (putRow (Value.int .i64) (Sort.ahead w n) (loc 0).b (loc 0).o (srt zs).toArray).heap[b]? = w.heap[b]? := fun b hb => by
      unfold putRow mapBlock
      simp only [Array.getElem?_modify]
      rw [if_neg (fun e => hb e.symm)]
      rfl
    have hsz1 : (putRow (Value.int .i64) (Sort.ahead w n) (loc 0).b (loc 0).o (srt zs).toArray).heap.size = w.heap.size := by simp [size_putRow, Sort.ahead]
    have hgr : ∀ b, b < w.heap.size → w'.heap[b]? = (putRow (Value.int .i64) (Sort.ahead w n) (loc 0).b (loc 0).o (srt zs).toArray).heap[b]? := fun b hb => by
      rw [hw']
      unfold grow
      exact Array.getElem?_append_left (by rw [hsz1]; exact hb)
    have hsr1 : Sr H loc [.row 1 ((srt zs).map fun z => [.lit (.int .i64 z)])] (putRow (Value.int .i64) (Sort.ahead w n) (loc 0).b (loc 0).o (srt zs).toArray) := by
      refine hsr.setOb (id := 0) (o' := .row 1 ((srt zs).map fun z => [.lit (.int .i64 z)])) rfl rfl hr ⟨rfl, by simp [hlen]⟩ ho2 ?_
      refine .inr ⟨hr, _, ec, hp, by simp [putCells, h2], by simp [hlen]; exact h3, fun x hx => ?_, fun i x hi j y hj => ?_⟩
      · obtain ⟨z, _, rfl⟩ := List.mem_map.1 hx; rfl
      · rw [List.getElem?_map] at hi
        obtain ⟨z, hz1, rfl⟩ := Option.map_eq_some_iff.1 hi
        have hil := lt_of_get hz1
        cases j with
        | succ j => simp at hj
        | zero =>
          simp only [List.getElem?_cons_zero, Option.some.injEq] at hj
          subst hj
          refine ⟨.int .i64 z, ?_, rfl, .lit _⟩
          have hin : (loc 0).o + i < c.size := by omega
          simp only [putCells, Nat.mul_one, Nat.add_zero, Array.getElem?_mapIdx]
          rw [Array.getElem?_eq_getElem hin]
          simp only [Option.map_some, Option.some.injEq]
          rw [if_pos ⟨by omega, by simp; omega⟩, show (loc 0).o + i - (loc 0).o = i by omega]
          congr 1
          rw [getElem!_pos _ i (by simpa using hil)]
          simp only [List.getElem_toArray]
          rw [List.getElem?_eq_getElem hil] at hz1
          exact Option.some.inj hz1
    refine ⟨.tuple #[], H, loc, .tup [], _, ⟨rfl, rfl⟩, he, .tup _ _ rfl (fun i v d h _ => by simp at h), hsr1.wider (fun b hb => hgr b (by rw [hsz1] at hb; exact hb)), ⟨?_, ?_, ?_, ?_, fun b hb hm => ?_, .refl H, fun b c h => .inl (by rw [h]; simp)⟩, fun i o ho hl hr => ?_, fun k o ho => ?_⟩
    · rw [hw']; rfl
    · rw [hw']; rfl
    · rw [hw']; rfl
    · rw [hw']; unfold grow; simp [hsz1]
    · have hbne : b ≠ (loc 0).b := fun e => hm ⟨0, _, rfl, rfl, hr, e.symm⟩
      rw [hgr b hb, ho2 b hbne]
    · cases i with
      | zero => exact .inl ⟨0, _, rfl, rfl, hr, rfl⟩
      | succ i => simp at ho
    · cases k with
      | zero => cases ho; exact .inr ⟨_, rfl, ⟨rfl, by simp [hlen]⟩, rfl⟩
      | succ k => simp at ho
  case ref0 => injection hd with a b c; omega
  case refGone => cases hd; rename_i ho; simp at ho
end Go.Ab

/- slices.Sort at this program: the numbers, and that the bodies are those of the contract. -/
namespace Go.Proofs.Ytagphggcdmjlpaa.P
open Go.Proofs Go.Shelf
def lays189_ren : Go.Shelf.Ren := ⟨fun | 189 => 63 | 125 => 90 | 257 => 89 | 128 => 108 | 129 => 109 | 294 => 100 | 295 => 101 | 296 => 102 | 297 => 103 | 298 => 104 | 299 => 105 | 216 => 93 | 300 => 106 | 301 => 107 | 328 => 113 | 329 => 114 | 330 => 115 | 331 => 116 | 332 => 117 | 215 => 111 | 343 => 119 | n => n, fun | 28 => 58 | 3 => 3 | 46 => 100 | 0 => 0 | 51 => 174 | 53 => 34 | 4 => 4 | 183 => 168 | 182 => 167 | 131 => 121 | 5 => 5 | 9 => 9 | 218 => 177 | 222 => 109 | 228 => 182 | 229 => 47 | n => n, fun | n => n⟩
theorem lays189 : Go.Proofs.Lays.n189 Try.prog lays189_ren := {
  mixed := by kernel_rfl
  f125 := Try.func90.trans (congrArg some (by kernel_rfl))
  f128 := Try.func108.trans (congrArg some (by kernel_rfl))
  f129 := Try.func109.trans (congrArg some (by kernel_rfl))
  f189 := Try.func63.trans (congrArg some (by kernel_rfl))
  f215 := Try.func111.trans (congrArg some (by kernel_rfl))
  f216 := Try.func93.trans (congrArg some (by kernel_rfl))
  f257 := Try.func89.trans (congrArg some (by kernel_rfl))
  f294 := Try.func100.trans (congrArg some (by kernel_rfl))
  f295 := Try.func101.trans (congrArg some (by kernel_rfl))
  f296 := Try.func102.trans (congrArg some (by kernel_rfl))
  f297 := Try.func103.trans (congrArg some (by kernel_rfl))
  f298 := Try.func104.trans (congrArg some (by kernel_rfl))
  f299 := Try.func105.trans (congrArg some (by kernel_rfl))
  f300 := Try.func106.trans (congrArg some (by kernel_rfl))
  f301 := Try.func107.trans (congrArg some (by kernel_rfl))
  f328 := Try.func113.trans (congrArg some (by kernel_rfl))
  f329 := Try.func114.trans (congrArg some (by kernel_rfl))
  f330 := Try.func115.trans (congrArg some (by kernel_rfl))
  f331 := Try.func116.trans (congrArg some (by kernel_rfl))
  f332 := Try.func117.trans (congrArg some (by kernel_rfl))
  f343 := Try.func119.trans (congrArg some (by kernel_rfl))
  t0 := Try.underlying0
  a0 := Try.isAgg0
  z0 := Try.sizeOf0
  v0 := Try.zeroValue0
  t3 := Try.underlying3
  a3 := Try.isAgg3
  z3 := Try.sizeOf3
  v3 := Try.zeroValue3
  t4 := Try.underlying4
  a4 := Try.isAgg4
  z4 := Try.sizeOf4
  v4 := Try.zeroValue4
  t5 := Try.underlying5
  a5 := Try.isAgg5
  z5 := Try.sizeOf5
  v5 := Try.zeroValue5
  t9 := Try.underlying9
  a9 := Try.isAgg9
  z9 := Try.sizeOf9
  v9 := Try.zeroValue9
  t28 := Try.underlying58
  a28 := Try.isAgg58
  z28 := Try.sizeOf58
  v28 := Try.zeroValue58
  t46 := Try.underlying100
  a46 := Try.isAgg100
  z46 := Try.sizeOf100
  v46 := Try.zeroValue100
  t51 := Try.underlying174
  a51 := Try.isAgg174
  z51 := Try.sizeOf174
  v51 := Try.zeroValue174
  t53 := Try.underlying34
  a53 := Try.isAgg34
  z53 := Try.sizeOf34
  v53 := Try.zeroValue34
  t131 := Try.underlying121
  a131 := Try.isAgg121
  z131 := Try.sizeOf121
  v131 := Try.zeroValue121
  t182 := Try.underlying167
  a182 := Try.isAgg167
  z182 := Try.sizeOf167
  v182 := Try.zeroValue167
  t183 := Try.underlying168
  a183 := Try.isAgg168
  z183 := Try.sizeOf168
  v183 := Try.zeroValue168
  t218 := Try.underlying177
  a218 := Try.isAgg177
  z218 := Try.sizeOf177
  v218 := Try.zeroValue177
  t222 := Try.underlying109
  a222 := Try.isAgg109
  z222 := Try.sizeOf109
  v222 := Try.zeroValue109
  t228 := Try.underlying182
  a228 := Try.isAgg182
  z228 := Try.sizeOf182
  v228 := Try.zeroValue182
  t229 := Try.underlying47
  a229 := Try.isAgg47
  z229 := Try.sizeOf47
  v229 := Try.zeroValue47 }
end Go.Proofs.Ytagphggcdmjlpaa.P

/- Cells of carry: a contract. -/
namespace Go.Proofs.Ytagphggcdmjlpaa.P
open Go.Ab Go.Proofs.Ytagphggcdmjlpaa.T

theorem sortAny (zs : List Int) (hz : zs.length ≤ 10000) : ACalls Try.prog 63 [.ref 0 0 zs.length] [.row 1 (zs.map irow)] (fun r obs' => r = .tup [] ∧ obs' = [.row 1 ((srt zs).map irow)]) := by
  by_cases hne : zs = []
  · subst hne
    intro H loc w vs hsr hsz hvs
    obtain ⟨v, rfl⟩ : ∃ v, vs = #[v] := by
      obtain ⟨l⟩ := vs
      match l, hsz with
      | [v], _ => exact ⟨v, rfl⟩
    have hv := hvs 0 v (.ref 0 0 0) rfl rfl
    obtain ⟨a, cap, rfl⟩ : ∃ a cap, v = .slice a 0 cap := by
      cases hv with
      | ref => exact ⟨_, _, rfl⟩
      | ref0 => exact ⟨_, _, rfl⟩
      | refGone v id off len ho => simp at ho
    refine (Any.slices_Sort_int_none lays189 a cap w).mono fun e w' ⟨he, hw⟩ => ?_
    subst hw
    exact ⟨.tuple #[], H, loc, .tup [], [.row 1 []], ⟨rfl, by simp [srt]⟩, he, .tup _ _ rfl (fun i v d h _ => by simp at h), hsr, .refl _ _ _, fun i o ho hl hr => .inl ⟨i, o, ho, hl, hr, rfl⟩, fun k o ho => .inr ⟨o, ho, Ob.sameShape_refl o (by
      rcases List.mem_singleton.1 (List.mem_of_getElem? ho) with rfl
      simp), rfl⟩⟩
  · exact sort_calls lays189 zs (by omega) hne


theorem cellsBad (g : List Int) (w e : Int) (L : List Obj) (he : (e != 0) = true) (hob : ACallP Try.prog 15 [words g] (.tup [objs L, iD e])) : ACalls Try.prog 30 [words g, wD w] [] (fun r obs' => r = .tup [ints [], iD e] ∧ obs' = []) := by
  refine acallm_fn [4, 5] Try.func30 rfl rfl Try.ntmps30 (by simp) (by simp) fun R hR => ?_
  (refine awp_reg_seq [0, 1] fun K hK => ?_; (repeat' ((refine al_r rfl fun K' hK' => ?_); (repeat (simp only [go_sem, simprocAttr, he])); ((refine hK' _ _ ?_) <;> clear hK' K'))); all_goals (refine al_nil ?_; (simp only [go_sem, simprocAttr, he]); refine hK _ ?_; clear hK K))
  refine awp_seq_k fun K hK => ?_
  (refine awp_reg_seq [0, 1, 7] fun K hK => ?_; (repeat' ((refine al_r rfl fun K' hK' => ?_); (repeat (simp only [go_sem, simprocAttr, he])); (first | ((refine hK' _ _ ?_) <;> clear hK' K') | ((show AC _ _ (D.fn 15 _) _ _); refine acall_p (f := 15) (e := rfl) (hr := rfl) (k := hK' _ _ ?_) (hc := Try.call15) (h := hob); clear hK' K')))); all_goals (refine al_nil ?_; (simp only [go_sem, simprocAttr, he]); refine hK _ ?_; clear hK K))

  (refine awp_reg_seq [0, 1, 7, 21] fun K hK => ?_; (repeat' ((refine al_r rfl fun K' hK' => ?_); (repeat (simp only [go_sem, simprocAttr, he])); ((refine hK' _ _ ?_) <;> clear hK' K'))); all_goals (refine al_nil ?_; (simp only [go_sem, simprocAttr, he]); refine hK _ ?_; clear hK K))
  refine awp_if (_) rfl (fun hc => ?_) (fun hc => ?_)
  · (refine awp_reg_seq [4, 5] fun K hK => ?_; (repeat' ((refine al_r rfl fun K' hK' => ?_); (repeat (simp only [go_sem, simprocAttr, he])); ((refine hK' _ _ ?_) <;> clear hK' K'))); all_goals (refine al_nil ?_; (simp only [go_sem, simprocAttr, he]); refine hK _ ?_; clear hK K))
    (refine awp_frz [4, 5] [] (by decide) (by (simp; done)) ?_; simp only [go_sem, simprocAttr, he])
    refine awp_ret (hR _ _ [] (.inl rfl) rfl (by decide) (by simp only [List.length_cons, List.length_nil]; decide) ?_)
    refine ⟨?_, ?_⟩
    · (simp only [go_sem, simprocAttr, he]; rfl)
    · simp only [go_sem, simprocAttr, he]
  · cases hc

/-- What Cells answers. -/
def CellsR (g : List Int) (w0 : Int) (r : D) : Prop := ∃ l e, r = .tup [ints l, iD e] ∧ (e = 0 → CellsOk g w0 l ∧ l.length ≤ 4001) ∧ (e ≠ 0 → CellBad g w0 ∨ (objsS g).2 ≠ 0)

theorem cells_at {g : List Int} (hg4 : g.length ≤ 4000) (hgo : ∀ w, w ∈ g → WordOk w) (a : Int) : ∃ (o : Obj) (e : Int), atS g a = (o, e) ∧ (e = 0 → o.parts.length ≤ 4000) ∧ ACallP Try.prog 19 [words g, iD a] (.tup [objD o, iD e]) := by
  have h := at_ g a (Nat.le_trans hg4 (by simp [maxLen])) hgo
  generalize hA : atS g a = A at h
  obtain ⟨o, e⟩ := A
  exact ⟨o, e, rfl, fun he => by subst he; exact (parts_mem hg4 hgo hA).2, h⟩


set_option maxRecDepth 100000 in
theorem cellsGood (g : List Int) (w0 : Int) (lo : List Obj) (hg4 : g.length ≤ 4000) (hgo : ∀ w, w ∈ g → WordOk w) (hob : ACallP Try.prog 15 [words g] (.tup [objs lo, iD 0])) : ACalls Try.prog 30 [words g, wD w0] [] (fun r obs' => CellsR g w0 r ∧ obs' = []) := by
  refine acallm_fn [4, 5] Try.func30 rfl rfl Try.ntmps30 (by simp) (by simp) fun R hR => ?_
  (refine awp_reg_seq [0, 1] fun K hK => ?_; (repeat' ((refine al_r rfl fun K' hK' => ?_); (repeat (simp only [go_sem, simprocAttr, bne_self_eq_false])); ((refine hK' _ _ ?_) <;> clear hK' K'))); all_goals (refine al_nil ?_; (simp only [go_sem, simprocAttr, bne_self_eq_false]); refine hK _ ?_; clear hK K))
  refine awp_seq_k fun K hK => ?_
  (refine awp_reg_seq [0, 1, 7] fun K hK => ?_; (repeat' ((refine al_r rfl fun K' hK' => ?_); (repeat (simp only [go_sem, simprocAttr, bne_self_eq_false])); (first | ((refine hK' _ _ ?_) <;> clear hK' K') | ((show AC _ _ (D.fn 15 _) _ _); refine acall_p (f := 15) (e := rfl) (hr := rfl) (k := hK' _ _ ?_) (hc := Try.call15) (h := hob); clear hK' K')))); all_goals (refine al_nil ?_; (simp only [go_sem, simprocAttr, bne_self_eq_false]); refine hK _ ?_; clear hK K))
  (refine awp_reg_seq [0, 1, 7, 21] fun K hK => ?_; (repeat' ((refine al_r rfl fun K' hK' => ?_); (repeat (simp only [go_sem, simprocAttr, bne_self_eq_false])); ((refine hK' _ _ ?_) <;> clear hK' K'))); all_goals (refine al_nil ?_; (simp only [go_sem, simprocAttr, bne_self_eq_false]); refine hK _ ?_; clear hK K))
  refine awp_if (_) rfl (fun hc => ?_) (fun hc => ?_)
  · cases hc
  · refine awp_skip ?_
    refine hK _ ?_; clear hK K
    (refine awp_reg_seq [0, 1, 8] fun K hK => ?_; (repeat' ((refine al_r rfl fun K' hK' => ?_); (repeat (simp only [go_sem, simprocAttr, bne_self_eq_false])); ((refine hK' _ _ ?_) <;> clear hK' K'))); all_goals (refine al_nil ?_; (simp only [go_sem, simprocAttr, bne_self_eq_false]); refine hK _ ?_; clear hK K))
    (refine awp_reg_seq [0, 8, 9] fun K hK => ?_; (repeat' ((refine al_r rfl fun K' hK' => ?_); (repeat (simp only [go_sem, simprocAttr, bne_self_eq_false])); ((refine hK' _ _ ?_) <;> clear hK' K'))); all_goals (refine al_nil ?_; (simp only [go_sem, simprocAttr, bne_self_eq_false]); refine hK _ ?_; clear hK K))
    (refine awp_reg_seq [0, 8, 9, 10] fun K hK => ?_; (repeat' ((refine al_r rfl fun K' hK' => ?_); (repeat (simp only [go_sem, simprocAttr, bne_self_eq_false])); ((refine hK' _ _ ?_) <;> clear hK' K'))); all_goals (refine al_nil ?_; (simp only [go_sem, simprocAttr, bne_self_eq_false]); refine hK _ ?_; clear hK K))
    refine awp_born 10 1 rfl ?_
    (refine awp_frz [0, 8, 9, 10] [0, 1, 2] (by decide) (by (simp; done)) ?_; simp only [go_sem, simprocAttr, bne_self_eq_false])
    refine awp_seq_k fun K hK => ?_
    refine awp_block ?_
    -- loop 0 head [0, 8, 9, 10]
    refine awp_loop_cut (fun m s => ∃ (L S : List Int) (pre : List (List PV)), RInv g w0 L S ∧ m = (g.length + 1 - S.length) * 5000 + L.length ∧ L.length ≤ 1 + 4000 * S.length ∧ s = ⟨ofL [(0, words g), (8, .mp 0), (9, .ref 1 pre.length L.length), (10, .ref 2 0 (cellsOf g S).length)], [.map (embS S), .row 1 (pre ++ L.map wrow), .row 1 ((cellsOf g S).map irow)], 0⟩) ⟨_, [w0], [], [], RInv.start g w0, rfl, by simp, rfl⟩ ?_
    rintro m s ⟨L, S, pre, hi, hm, hL, rfl⟩
    have hSb := hi.bound
    refine awp_seq_k fun K hK => ?_
    (refine awp_reg_seq [0, 8, 9, 10, 28] fun K hK => ?_; (repeat' ((refine al_r rfl fun K' hK' => ?_); (repeat (simp only [go_sem, simprocAttr, bne_self_eq_false])); ((first | refine hK' _ _ ?_ | refine ⟨?_, hK' _ _ ?_⟩) <;> clear hK' K' <;> (first | (show alist _ _ _ _ _ _; skip) | (intro s hs; cases hs; done))))); all_goals (refine al_nil ?_; (simp only [go_sem, simprocAttr, bne_self_eq_false]); refine hK _ ?_; clear hK K))
    refine awp_if (decide ((L.length : Int) > 0)) rfl (fun hc => ?_) (fun hc => ?_)
    · refine awp_skip ?_
      refine hK _ ?_; clear hK K
      refine awp_block ?_
      obtain ⟨w, L', rfl⟩ : ∃ w L', L = w :: L' := by
        cases L with
        | nil => simp at hc
        | cons w L' => exact ⟨w, L', rfl⟩
      clear hc
      have hrd := readW w
      obtain ⟨tg, htg⟩ : ∃ tg, (readS w).1 = tg := ⟨_, rfl⟩
      obtain ⟨n, hn⟩ : ∃ n, (readS w).2.1 = n := ⟨_, rfl⟩
      obtain ⟨e, hee⟩ : ∃ e, (readS w).2.2 = e := ⟨_, rfl⟩
      rw [htg, hn, hee] at hrd
      rw [List.length_cons] at hm hL
      have hget : (pre ++ wrow w :: L'.map wrow)[pre.length]? = some (wrow w) := by simp
      obtain ⟨X, hX⟩ : ∃ X, (tg != 4) = X := ⟨_, rfl⟩
      obtain ⟨Y, hY⟩ : ∃ Y, decide (n ∈ S) = Y := ⟨_, rfl⟩
      have hmg : mget (embS S) n = if Y = true then some (.lit (.bool true)) else none := by rw [mget_embS, ← hY]; simp
      have hkeys := embS_keys S
      have hone : (L'.length : Int) + 1 ≥ 1 := by omega

      (refine awp_reg_seq [0, 8, 9, 10, 11, 12, 13] fun K hK => ?_; (repeat' ((refine al_r rfl fun K' hK' => ?_); (repeat (simp only [go_sem, simprocAttr, hget, Nat.add_zero, Int.toNat_zero, Int.toNat_natCast, Nat.add_sub_cancel])); (first | ((first | refine hK' _ _ ?_ | refine ⟨?_, hK' _ _ ?_⟩) <;> clear hK' K' <;> (first | (show alist _ _ _ _ _ _; skip) | assumption)) | ((show AC _ _ (D.fn 62 _) _ _); refine acall_p (f := 62) (e := rfl) (hr := rfl) (k := hK' _ _ ?_) (hc := Try.call62) (h := hrd); clear hK' K')))); all_goals (refine al_nil ?_; (simp only [go_sem, simprocAttr, hget, Nat.add_zero, Int.toNat_zero, Int.toNat_natCast, Nat.add_sub_cancel]); refine hK _ ?_; clear hK K))
      (refine awp_reg_seq [0, 8, 9, 10, 11, 12, 13] fun K hK => ?_; (repeat' ((refine al_r rfl fun K' hK' => ?_); (repeat (simp only [go_sem, simprocAttr, hget, Nat.add_zero, Int.toNat_zero, Int.toNat_natCast, Nat.add_sub_cancel])); ((first | refine hK' _ _ ?_ | refine ⟨?_, ?_, ?_, hK' _ _ ?_⟩) <;> clear hK' K' <;> (first | (show alist _ _ _ _ _ _; skip) | assumption | (simp; done))))); all_goals (refine al_nil ?_; (simp only [go_sem, simprocAttr, hget, Nat.add_zero, Int.toNat_zero, Int.toNat_natCast, Nat.add_sub_cancel]); refine hK _ ?_; clear hK K))
      refine awp_seq_k fun K hK => ?_
      (refine awp_reg_seq [0, 8, 9, 10, 11, 12, 13, 40] fun K hK => ?_; (repeat' ((refine al_r rfl fun K' hK' => ?_); (repeat (simp only [go_sem, simprocAttr, hget, Nat.add_zero, Int.toNat_zero, Int.toNat_natCast, Nat.add_sub_cancel])); ((refine hK' _ _ ?_) <;> clear hK' K'))); all_goals (refine al_nil ?_; (simp only [go_sem, simprocAttr, hget, Nat.add_zero, Int.toNat_zero, Int.toNat_natCast, Nat.add_sub_cancel]); refine hK _ ?_; clear hK K))
      refine awp_if (e != 0) rfl (fun hc => ?_) (fun hc => ?_)
      · (refine awp_reg_seq [4, 5] fun K hK => ?_; (repeat' ((refine al_r rfl fun K' hK' => ?_); (repeat (simp only [go_sem, simprocAttr, hget, Nat.add_zero, Int.toNat_zero, Int.toNat_natCast, Nat.add_sub_cancel])); ((refine hK' _ _ ?_) <;> clear hK' K'))); all_goals (refine al_nil ?_; (simp only [go_sem, simprocAttr, hget, Nat.add_zero, Int.toNat_zero, Int.toNat_natCast, Nat.add_sub_cancel]); refine hK _ ?_; clear hK K))
        (refine awp_frz [4, 5] [] (by decide) (by (simp; done)) ?_; simp only [go_sem, simprocAttr, hget, Nat.add_zero, Int.toNat_zero, Int.toNat_natCast, Nat.add_sub_cancel])
        refine awp_ret (hR _ _ [] (.inl rfl) rfl (by decide) (by simp only [List.length_cons, List.length_nil]; decide) ?_)
        refine ⟨⟨[], e, ?_, fun h => absurd h (by simpa using hc), fun h => .inl <| hi.bad1 (by show (readS w).2.2 ≠ 0; rw [hee]; exact h)⟩, ?_⟩
        · (simp only [go_sem, simprocAttr, hget, Nat.add_zero, Int.toNat_zero, Int.toNat_natCast, Nat.add_sub_cancel]; rfl)
        · simp only [go_sem, simprocAttr, hget, Nat.add_zero, Int.toNat_zero, Int.toNat_natCast, Nat.add_sub_cancel]
      · have he0 : e = 0 := by simpa using hc
        refine awp_skip ?_
        refine hK _ ?_; clear hK K
        refine awp_seq_k fun K hK => ?_

        refine awp_reg_tov [0, 8, 9, 10, 12, 48] [(48, bD (X || Y))] (h := ?_) (k := ?_)
        · cases X <;> cases Y
          all_goals ((repeat' (first | ((first | refine al_r rfl fun K' hK' => ?_ | refine al_t rfl rfl fun K' hK' => ?_); (repeat (simp only [go_sem, simprocAttr, hX, hmg, hkeys])); ((refine hK' _ _ ?_) <;> clear hK' K')) | refine al_e rfl rfl ?_)); all_goals (refine al_nil ?_; (simp only [go_sem, simprocAttr, hX, hmg, hkeys, *, Bool.and_true, Bool.and_false, Bool.true_and, Bool.false_and, Bool.or_true, Bool.true_or, Bool.or_false, Bool.false_or, Bool.not_true, Bool.not_false, Bool.false_eq_true]; done)))
        (intro K hK; (simp only [go_sem, simprocAttr, hX, hmg, hkeys]); refine hK _ ?_; clear hK K)
        refine awp_if (X || Y) rfl (fun hc => ?_) (fun hc => ?_)
        · have hgo1 : RInv g w0 L' S := hi.skip ⟨by show (readS w).2.2 = 0; rw [hee, he0], fun hp => by
            have hp : ((readS w).2.2 == 0 && (readS w).1 == 4) = true := hp
            rw [hee, htg, Bool.and_eq_true, beq_iff_eq, beq_iff_eq] at hp
            have hXf : X = false := by rw [← hX, hp.2]; rfl
            rw [hXf, Bool.false_or] at hc
            rw [hc, decide_eq_true_eq] at hY
            show (readS w).2.1 ∈ S
            rw [hn]; exact hY⟩
          refine awp_exit ?_
          (exact ⟨(g.length + 1 - S.length) * 5000 + L'.length, by omega, [0, 8, 9, 10], [0, 1, 2], by decide, (fun q hq => absurd hq (Nat.not_lt_zero q)), L', S, pre ++ [wrow w], hgo1, rfl, by omega, by rw [List.length_append, List.append_assoc]; rfl⟩)
        · have hXf : X = false := by cases X with | false => rfl | true => cases hc
          have hYf : Y = false := by cases Y with | false => rfl | true => rw [hXf] at hc; cases hc
          have ht4 : tg = 4 := by rw [hXf] at hX; simpa using hX
          have hnS : n ∉ S := by rw [hYf] at hY; simpa using hY
          obtain ⟨o, e2, hA, hpl, hat⟩ := cells_at hg4 hgo n
          have hms := mset_embS hnS

          refine awp_skip ?_
          refine hK _ ?_; clear hK K
          (refine awp_reg_seq [0, 8, 9, 10, 12, 13, 14] fun K hK => ?_; (repeat' ((first | refine al_r rfl fun K' hK' => ?_ | refine al_d rfl fun K' hK' => ?_); (repeat (first | (simp only [go_sem, simprocAttr, hkeys, hms]) | refine AS.mk ?_)); (first | ((first | refine hK' _ _ ?_ | refine ⟨?_, hK' _ _ ?_⟩) <;> clear hK' K' <;> (first | (show alist _ _ _ _ _ _; skip) | (simp; done))) | ((show AC _ _ (D.fn 19 _) _ _); refine acall_p (f := 19) (e := rfl) (hr := rfl) (k := hK' _ _ ?_) (hc := Try.call19) (h := hat); clear hK' K')))); all_goals (refine al_nil ?_; (simp only [go_sem, simprocAttr, hkeys, hms]); refine hK _ ?_; clear hK K))
          refine awp_seq_k fun K hK => ?_
          (refine awp_reg_seq [0, 8, 9, 10, 12, 13, 14, 56] fun K hK => ?_; (repeat' ((refine al_r rfl fun K' hK' => ?_); (repeat (simp only [go_sem, simprocAttr, hkeys, hms])); ((refine hK' _ _ ?_) <;> clear hK' K'))); all_goals (refine al_nil ?_; (simp only [go_sem, simprocAttr, hkeys, hms]); refine hK _ ?_; clear hK K))
          refine awp_if (e2 != 0) rfl (fun hc => ?_) (fun hc => ?_)
          · (refine awp_reg_seq [4, 5] fun K hK => ?_; (repeat' ((refine al_r rfl fun K' hK' => ?_); (repeat (simp only [go_sem, simprocAttr, hkeys, hms])); ((refine hK' _ _ ?_) <;> clear hK' K'))); all_goals (refine al_nil ?_; (simp only [go_sem, simprocAttr, hkeys, hms]); refine hK _ ?_; clear hK K))
            (refine awp_frz [4, 5] [] (by decide) (by (simp; done)) ?_; simp only [go_sem, simprocAttr, hkeys, hms])
            refine awp_ret (hR _ _ [] (.inl rfl) rfl (by decide) (by simp only [List.length_cons, List.length_nil]; decide) ?_)
            refine ⟨⟨[], e2, ?_, fun h => absurd h (by simpa using hc), fun h => .inl <| hi.bad2 (by show ((readS w).2.2 == 0 && (readS w).1 == 4) = true; rw [hee, htg, he0, ht4]; rfl) (by show (atS g (readS w).2.1).2 ≠ 0; rw [hn, hA]; exact h)⟩, ?_⟩
            · (simp only [go_sem, simprocAttr, hkeys, hms]; rfl)
            · simp only [go_sem, simprocAttr, hkeys, hms]
          · have he2 : e2 = 0 := by simpa using hc
            rw [he2] at hA
            have hpl := hpl he2
            have hpn : (placeS w).1 = n := hn
            have hgo2 : RInv g w0 (L' ++ o.parts) (S ++ [n]) := by
              have := hi.new hg4 hgo (by show (readS w).2.2 = 0; rw [hee, he0]) (by show ((readS w).2.2 == 0 && (readS w).1 == 4) = true; rw [hee, htg, he0, ht4]; rfl) (by rw [hpn]; exact hnS) (by rw [hpn]; exact hA)
              rw [hpn] at this
              exact this
            have hb2 := hgo2.bound
            rw [List.length_append, List.length_singleton] at hb2
            have hce := cellsOf_end g S n
            rw [hA] at hce
            obtain ⟨S2, hS2⟩ : ∃ S2, S2 = S ++ [n] := ⟨_, rfl⟩
            have hS2l : S2.length = S.length + 1 := by rw [hS2]; simp
            rw [← hS2] at hms hgo2 hce
            have hco : (cellsOf g S).length ≤ S.length := by unfold cellsOf; exact List.length_filter_le _ _
            have htc : List.take (cellsOf g S).length ((cellsOf g S).map irow) = (cellsOf g S).map irow := List.take_of_length_le (by simp)
            have hfc : ((cellsOf g S).length + 1) * 8 ≤ 140737488355328 := by omega
            have hdt : List.take L'.length (List.drop (pre.length + 1) (pre ++ wrow w :: L'.map wrow)) = L'.map wrow := by
              rw [List.drop_append, List.drop_of_length_le (by omega), List.nil_append, show pre.length + 1 - pre.length = 1 by omega]
              exact List.take_of_length_le (by simp)
            have hfp : (L'.length + o.parts.length) * 8 ≤ 140737488355328 := by omega
            have hpw := wrow1 o.parts

            refine awp_skip ?_
            refine hK _ ?_; clear hK K
            (refine awp_reg_seq [0, 8, 9, 10, 12, 14] fun K hK => ?_; (repeat' ((first | refine al_r rfl fun K' hK' => ?_ | refine al_d rfl fun K' hK' => ?_); (repeat (simp only [go_sem, simprocAttr, hkeys, hms, htc, hfc, hdt, hfp, hpw, List.length_map, List.drop_zero])); ((refine hK' _ _ ?_) <;> clear hK' K'))); all_goals (refine al_nil ?_; (simp only [go_sem, simprocAttr, hkeys, hms, htc, hfc, hdt, hfp, hpw, List.length_map, List.drop_zero]); refine hK _ ?_; clear hK K))
            refine awp_seq_k fun K hK => ?_
            (refine awp_reg_seq [0, 8, 9, 10, 12, 14, 62] fun K hK => ?_; (repeat' ((refine al_r rfl fun K' hK' => ?_); (repeat (simp only [go_sem, simprocAttr, hkeys, hms, htc, hfc, hdt, hfp, hpw, List.length_map, List.drop_zero])); ((refine hK' _ _ ?_) <;> clear hK' K'))); all_goals (refine al_nil ?_; (simp only [go_sem, simprocAttr, hkeys, hms, htc, hfc, hdt, hfp, hpw, List.length_map, List.drop_zero]); refine hK _ ?_; clear hK K))
            refine awp_if (o.kind == 5) rfl (fun hc => ?_) (fun hc => ?_)
            · have hce1 : cellsOf g S2 = cellsOf g S ++ [n] := by rw [hce]; exact if_pos hc
              (refine awp_reg_end [0, 8, 9, 10, 14] fun K hK => ?_; (repeat' ((refine al_r rfl fun K' hK' => ?_); (repeat (first | (simp only [go_sem, simprocAttr, hkeys, hms, htc, hfc, hdt, hfp, hpw, List.length_map, List.drop_zero]) | refine AAp.grow ?_)); ((first | refine hK' _ _ ?_ | refine ⟨?_, ?_, hK' _ _ ?_⟩) <;> clear hK' K' <;> (first | (show alist _ _ _ _ _ _; skip) | (simp; done))))); all_goals (refine al_nil ?_; (simp only [go_sem, simprocAttr, hkeys, hms, htc, hfc, hdt, hfp, hpw, List.length_map, List.drop_zero]); refine hK _ ?_; clear hK K))
              refine hK _ ?_; clear hK K
              (refine awp_reg_end [0, 8, 9, 10] fun K hK => ?_; (repeat' ((refine al_r rfl fun K' hK' => ?_); (repeat (first | (simp only [go_sem, simprocAttr, hkeys, hms, htc, hfc, hdt, hfp, hpw, List.length_map, List.drop_zero]) | refine AAp.grow ?_)); ((first | refine hK' _ _ ?_ | refine ⟨?_, ?_, hK' _ _ ?_⟩) <;> clear hK' K' <;> (first | (show alist _ _ _ _ _ _; skip) | assumption | omega)))); all_goals (refine al_nil ?_; (simp only [go_sem, simprocAttr, hkeys, hms, htc, hfc, hdt, hfp, hpw, List.length_map, List.drop_zero]); refine hK _ ?_; clear hK K))
              (exact ⟨(g.length + 1 - S2.length) * 5000 + (L' ++ o.parts).length, by rw [hS2l, List.length_append]; omega, [0, 8, 9, 10], [0, 6, 5], by decide, (fun q hq => absurd hq (Nat.not_lt_zero q)), L' ++ o.parts, S2, [], hgo2, rfl, by rw [hS2l, List.length_append]; omega, by simp only [hce1, List.length_append, List.map_append]; rfl⟩)
            · have hce2 : cellsOf g S2 = cellsOf g S := by rw [hce]; exact if_neg (by rw [hc]; exact Bool.false_ne_true)
              refine awp_skip ?_
              refine hK _ ?_; clear hK K
              (refine awp_reg_end [0, 8, 9, 10] fun K hK => ?_; (repeat' ((refine al_r rfl fun K' hK' => ?_); (repeat (first | (simp only [go_sem, simprocAttr, hkeys, hms, htc, hfc, hdt, hfp, hpw, List.length_map, List.drop_zero]) | refine AAp.grow ?_)); ((first | refine hK' _ _ ?_ | refine ⟨?_, ?_, hK' _ _ ?_⟩) <;> clear hK' K' <;> (first | (show alist _ _ _ _ _ _; skip) | assumption | omega)))); all_goals (refine al_nil ?_; (simp only [go_sem, simprocAttr, hkeys, hms, htc, hfc, hdt, hfp, hpw, List.length_map, List.drop_zero]); refine hK _ ?_; clear hK K))
              (exact ⟨(g.length + 1 - S2.length) * 5000 + (L' ++ o.parts).length, by rw [hS2l, List.length_append]; omega, [0, 8, 9, 10], [0, 4, 2], by decide, (fun q hq => absurd hq (Nat.not_lt_zero q)), L' ++ o.parts, S2, [], hgo2, rfl, by rw [hS2l, List.length_append]; omega, by simp only [hce2, List.length_append, List.map_append]; rfl⟩)

    · obtain rfl : L = [] := by
        cases L with
        | nil => rfl
        | cons w L' => simp at hc
      have hco : (cellsOf g S).length ≤ S.length := by unfold cellsOf; exact List.length_filter_le _ _
      have hsort := sortAny (cellsOf g S) (by omega)
      have hsl : (srt (cellsOf g S)).length = (cellsOf g S).length := List.length_mergeSort _
      have hok : CellsOk g w0 (srt (cellsOf g S)) := cells_ok hi (List.mergeSort_perm _ _)
      refine awp_exit ?_
      clear hK
      refine hK _ ?_; clear hK K
      (refine awp_reg_seq [10] fun K hK => ?_; (repeat' ((refine al_r rfl fun K' hK' => ?_); (repeat (simp only [go_sem, simprocAttr, bne_self_eq_false, List.length_map])); (first | ((refine hK' _ _ ?_) <;> clear hK' K') | ((show AC _ _ (D.fn 63 _) _ _); refine acall_m (f := 63) [2] Try.call63 hsort rfl rfl (by decide) (by simp) ?_; rintro r obs' ⟨rfl, rfl⟩; refine ⟨by simp, ?_⟩; (simp only [go_sem, simprocAttr, bne_self_eq_false, List.length_map]); refine hK' _ _ ?_; clear hK' K')))); all_goals (refine al_nil ?_; (simp only [go_sem, simprocAttr, bne_self_eq_false, List.length_map]); refine hK _ ?_; clear hK K))
      (refine awp_reg_seq [4, 5] fun K hK => ?_; (repeat' ((refine al_r rfl fun K' hK' => ?_); (repeat (simp only [go_sem, simprocAttr, bne_self_eq_false, List.length_map])); ((refine hK' _ _ ?_) <;> clear hK' K'))); all_goals (refine al_nil ?_; (simp only [go_sem, simprocAttr, bne_self_eq_false, List.length_map]); refine hK _ ?_; clear hK K))
      (refine awp_frz [4, 5] [] (by decide) (by (simp; done)) ?_; simp only [go_sem, simprocAttr, bne_self_eq_false, List.length_map])
      refine awp_ret (hR _ _ [] (.inl rfl) rfl (by decide) (by simp only [List.length_cons, List.length_nil]; decide) ?_)
      refine ⟨⟨srt (cellsOf g S), 0, ?_, fun _ => ⟨hok, by omega⟩, fun h => absurd rfl h⟩, ?_⟩ <;> simp only [go_sem, simprocAttr, bne_self_eq_false, List.length_map]
      rw [← hsl, List.take_of_length_le (by simp)]

theorem cellsAny (g : List Int) (w0 : Int) (hgl : g.length ≤ maxLen) (hgo : ∀ w, w ∈ g → WordOk w) : ACallR Try.prog 30 [words g, wD w0] (CellsR g w0) := by
  have hob := objects g hgl hgo
  by_cases he : (objsS g).2 = 0
  · rw [he] at hob
    exact cellsGood g w0 _ (heap_flat hgl hgo he).1 hgo hob
  · refine (cellsBad g w0 _ _ (by simpa using he) hob).mono ?_
    rintro r o ⟨h1, h2⟩
    exact ⟨⟨[], _, h1, fun h => absurd h he, fun _ => .inr he⟩, h2⟩
end Go.Proofs.Ytagphggcdmjlpaa.P

/- What is built in a heap whose words name objects. -/
namespace Go.Proofs.Ytagphggcdmjlpaa.P
open Go.Ab Go.Proofs.Ytagphggcdmjlpaa.T

theorem NameOk.more {L N : List Obj} {w : Int} (h : NameOk L w) : NameOk (L ++ N) w := ⟨h.1, fun hi => by
  obtain ⟨o, ho, ha⟩ := h.2 hi
  exact ⟨o, List.mem_append_left _ ho, ha⟩⟩

end Go.Proofs.Ytagphggcdmjlpaa.P

/- The reading of a word, whatever its parts answer: contracts. -/
namespace Go.Proofs.Ytagphggcdmjlpaa.P
open Go.Ab Go.Proofs.Ytagphggcdmjlpaa.T

/-- A value, so deep at most. -/
def Val : Nat → List PV → Prop
  | 0, _ => False
  | f + 1, xs => ∃ k n text args, xs = [.lit (.int .i64 k), .lit (.int .i64 n), .lit (.string text), .sl args] ∧ args.length ≤ 400 ∧ ∀ x, x ∈ args → Val f x

theorem Val.form {f : Nat} {xs : List PV} (h : Val f xs) : ∃ k n t a, xs = [.lit (.int .i64 k), .lit (.int .i64 n), .lit (.string t), .sl a] := by
  cases f with
  | zero => exact h.elim
  | succ f =>
    obtain ⟨k, n, text, args, e, _⟩ := h
    exact ⟨k, n, text, args, e⟩

abbrev zrow : List PV := [.lit (.int .i64 0), .lit (.int .i64 0), .lit (.string ByteArray.empty), .sl []]

/-- Parts that are read one behind the other: each answers a value, an error, and how many nodes are left. -/
def runC : List (Int → List PV × Int × Int) → Int → List (List PV) → List (List PV) × Int × Int
  | [], lf, acc => (acc, 0, lf)
  | c :: l, lf, acc => if (c lf).2.1 != 0 then ([], (c lf).2.1, (c lf).2.2) else runC l (c lf).2.2 (acc ++ [(c lf).1])

/-- What the reading of a word answers. -/
def ReadsTo (g : List Int) (w nest left : Int) (r : List PV × Int × Int) : Prop :=
  ACalls Try.prog 58 [words g, wD w, iD nest, .ptr 0 0 0] [.box [iD left]] (fun v obs' => v = .tup [.agg (r.1.map .p), iD r.2.1] ∧ obs' = [.box [iD r.2.2]])
def ResOk (f : Nat) (left : Int) (r : List PV × Int × Int) : Prop := Val f r.1 ∧ -1 ≤ r.2.2 ∧ r.2.2 ≤ left ∧ (r.2.1 = 0 → 0 ≤ r.2.2)

def nodeR (k num : Int) (text : ByteArray) (R : List (List PV) × Int × Int) : List PV × Int × Int :=
  if R.2.1 != 0 then (zrow, R.2.1, R.2.2) else ([.lit (.int .i64 k), .lit (.int .i64 num), .lit (.string text), .sl R.1], 0, R.2.2)


theorem readLarge (g : List Int) (w nest left : Int) (h0 : 0 ≤ left) (h4 : left ≤ 400) (hc0 : (decide (left - 1 < 0) || decide (nest < 1)) = true) : ReadsTo g w nest left (zrow, 2, left - 1) := by
  unfold ReadsTo
  have hwl : IntKind.i64.wrap (left - 1) = left - 1 := Go.Ab.wrap_small (by omega) (by omega)
  obtain ⟨A, hA⟩ : ∃ A, decide (left - 1 < 0) = A := ⟨_, rfl⟩
  obtain ⟨B, hB⟩ : ∃ B, decide (nest < 1) = B := ⟨_, rfl⟩
  rw [hA, hB] at hc0
  refine acallm_fnv [.cell 8 38, .tmp 9] Try.func58 rfl rfl Try.ntmps58 (by simp) (by simp) fun R hR => ?_
  (refine awp_reg_seq [0, 1, 2, 3, 8] fun K hK => ?_; (repeat' ((refine al_r rfl fun K' hK' => ?_); (repeat (simp only [go_sem, simprocAttr])); ((refine hK' _ _ ?_) <;> clear hK' K'))); all_goals (refine al_nil ?_; (simp only [go_sem, simprocAttr]); refine hK _ ?_; clear hK K))
  refine awp_seq_k fun K hK => ?_

  (refine awp_reg_seq [0, 1, 2, 3, 8] fun K hK => ?_; (repeat' ((first | refine al_r rfl fun K' hK' => ?_ | refine al_d rfl fun K' hK' => ?_); (repeat (first | (simp only [go_sem, simprocAttr, hwl, hA, hB]) | refine AS.mk ?_)); ((first | refine hK' _ _ ?_ | refine ⟨?_, hK' _ _ ?_⟩) <;> clear hK' K' <;> (first | (show alist _ _ _ _ _ _; skip) | (simp; done))))); all_goals (refine al_nil ?_; (simp only [go_sem, simprocAttr, hwl, hA, hB]); refine hK _ ?_; clear hK K))
  refine awp_reg_tov [0, 1, 2, 3, 8, 33] [(33, bD true)] (h := ?_) (k := ?_)
  · cases A <;> cases B <;> first | (cases hc0; done) | skip
    all_goals ((repeat' (first | ((first | refine al_r rfl fun K' hK' => ?_ | refine al_t rfl rfl fun K' hK' => ?_); (repeat (simp only [go_sem, simprocAttr, hwl, hA, hB])); ((refine hK' _ _ ?_) <;> clear hK' K')) | refine al_e rfl rfl ?_)); all_goals (refine al_nil ?_; (simp only [go_sem, simprocAttr, hwl, hA, hB, *, Bool.and_true, Bool.and_false, Bool.true_and, Bool.false_and, Bool.or_true, Bool.true_or, Bool.or_false, Bool.false_or, Bool.not_true, Bool.not_false, Bool.false_eq_true]; done)))
  (intro K hK; (simp only [go_sem, simprocAttr, hwl, hA, hB]); refine hK _ ?_; clear hK K)
  refine awp_if (_) rfl (fun hc => ?_) (fun hc => ?_)
  · (refine awp_reg_seq [8, 9] fun K hK => ?_; (repeat' ((first | refine al_r rfl fun K' hK' => ?_ | refine al_d rfl fun K' hK' => ?_); (repeat (first | (simp only [go_sem, simprocAttr, hwl, hA, hB]) | refine AS.mk ?_)); ((first | refine hK' _ _ ?_ | refine ⟨?_, hK' _ _ ?_⟩) <;> clear hK' K' <;> (first | (show alist _ _ _ _ _ _; skip) | (simp; done))))); all_goals (refine al_nil ?_; (simp only [go_sem, simprocAttr, hwl, hA, hB]); refine hK _ ?_; clear hK K))
    (refine awp_frz [8, 9] [0] (by decide) (by (simp; done)) ?_; simp only [go_sem, simprocAttr, hwl, hA, hB])
    refine awp_ret (hR _ _ (.inl rfl) rfl ⟨[0], (.tup [.agg (zrow.map .p), iD 2]), by decide, by simp only [List.length_cons, List.length_nil]; decide, ?_, ?_⟩)
    · simp only [go_sem, simprocAttr, hwl, hA, hB, List.map_cons, List.map_nil]
    · refine ⟨?_, ?_⟩ <;> simp only [go_sem, simprocAttr, hwl, hA, hB, List.map_cons, List.map_nil]
  · cases hc


set_option maxRecDepth 100000 in
theorem readNode (g : List Int) (f : Nat) (w a : Int) (o : Obj) (k nest left : Int) (cs : List (Int → List PV × Int × Int))
    (hva : ACallP Try.prog 81 [wD w] (.tup [.agg [iD 0, iD 0, .p (.lit (.string ByteArray.empty)), .p (.sl [])], bD false]))
    (hrd : ACallP Try.prog 62 [wD w] (.tup [iD 4, iD a, iD 0])) (hat : ACallP Try.prog 19 [words g, iD a] (.tup [objD o, iD 0])) (hki : ACallP Try.prog 82 [iD o.kind] (iD k))
    (hcl : cs.length = o.parts.length) (hal : o.parts.length ≤ 400)
    (hcs : ∀ (i : Nat) w1 c, o.parts[i]? = some w1 → cs[i]? = some c → ∀ lf, 0 ≤ lf → lf ≤ 400 → ReadsTo g w1 (nest - 1) lf (c lf) ∧ ResOk f lf (c lf))
    (hn : 1 ≤ nest) (hn2 : nest ≤ 1000) (hl1 : 1 ≤ left) (hl2 : left ≤ 400) :
    ReadsTo g w nest left (nodeR k o.num o.text (runC cs (left - 1) [])) := by
  obtain ⟨RC, hRC⟩ : ∃ RC, RC = runC cs (left - 1) [] := ⟨_, rfl⟩
  obtain ⟨V, hV⟩ : ∃ V, V = nodeR k o.num o.text RC := ⟨_, rfl⟩
  rw [← hRC, ← hV]
  unfold ReadsTo
  unfold nodeR at hV
  have hwl : IntKind.i64.wrap (left - 1) = left - 1 := Go.Ab.wrap_small (by omega) (by omega)
  have c1 : decide (left - 1 < 0) = false := by simp; omega
  have c2 : decide (nest < 1) = false := by simp; omega
  have hwn : IntKind.i64.wrap (nest - 1) = nest - 1 := Go.Ab.wrap_small (by omega) (by omega)
  refine acallm_fnv [.cell 8 38, .tmp 9] Try.func58 rfl rfl Try.ntmps58 (by simp) (by simp) fun R hR => ?_
  (refine awp_reg_seq [0, 1, 2, 3, 8] fun K hK => ?_; (repeat' ((refine al_r rfl fun K' hK' => ?_); (repeat (simp only [go_sem, simprocAttr])); ((refine hK' _ _ ?_) <;> clear hK' K'))); all_goals (refine al_nil ?_; (simp only [go_sem, simprocAttr]); refine hK _ ?_; clear hK K))
  refine awp_seq_k fun K hK => ?_

  (refine awp_reg_seq [0, 1, 2, 3, 8] fun K hK => ?_; (repeat' ((first | refine al_r rfl fun K' hK' => ?_ | refine al_d rfl fun K' hK' => ?_); (repeat (first | (simp only [go_sem, simprocAttr, hwl, c1, c2]) | refine AS.mk ?_)); ((first | refine hK' _ _ ?_ | refine ⟨?_, hK' _ _ ?_⟩) <;> clear hK' K' <;> (first | (show alist _ _ _ _ _ _; skip) | (simp; done))))); all_goals (refine al_nil ?_; (simp only [go_sem, simprocAttr, hwl, c1, c2]); refine hK _ ?_; clear hK K))
  (refine awp_reg_tov [0, 1, 2, 3, 8, 33] [(33, bD false)] (h := ?_) (k := ?_); · ((repeat' ((first | refine al_r rfl fun K' hK' => ?_ | refine al_t rfl rfl fun K' hK' => ?_); (repeat (simp only [go_sem, simprocAttr, hwl, c1, c2])); ((refine hK' _ _ ?_) <;> clear hK' K'))); all_goals (refine al_nil ?_; simp only [go_sem, simprocAttr, hwl, c1, c2, *, Bool.and_true, Bool.and_false, Bool.true_and, Bool.false_and, Bool.or_true, Bool.true_or, Bool.or_false, Bool.false_or, Bool.not_true, Bool.not_false, Bool.false_eq_true]))); intro K hK; (simp only [go_sem, simprocAttr, hwl, c1, c2]); refine hK _ ?_; clear hK K
  refine awp_if (_) rfl (fun hc => ?_) (fun hc => ?_)
  · cases hc
  · refine awp_skip ?_
    refine hK _ ?_; clear hK K
    refine awp_seq_k fun K hK => ?_
    (refine awp_reg_seq [0, 1, 2, 3, 8, 10, 11] fun K hK => ?_; (repeat' ((first | refine al_r rfl fun K' hK' => ?_ | refine al_d rfl fun K' hK' => ?_); (repeat (first | (simp only [go_sem, simprocAttr, hwl, c1, c2]) | refine AS.mk ?_)); (first | ((first | refine hK' _ _ ?_ | refine ⟨?_, hK' _ _ ?_⟩) <;> clear hK' K' <;> (first | (show alist _ _ _ _ _ _; skip) | (simp; done))) | ((show AC _ _ (D.fn 81 _) _ _); refine acall_p (f := 81) (e := rfl) (hr := rfl) (k := hK' _ _ ?_) (hc := Try.call81) (h := hva); clear hK' K')))); all_goals (refine al_nil ?_; (simp only [go_sem, simprocAttr, hwl, c1, c2]); refine hK _ ?_; clear hK K))
    (refine awp_frz [0, 1, 2, 3, 8, 10, 11] [0, 1] (by decide) (by (simp; done)) ?_; simp only [go_sem, simprocAttr, hwl, c1, c2])
    (refine awp_reg_seq [0, 1, 2, 3, 8, 10, 40] fun K hK => ?_; (repeat' ((refine al_r rfl fun K' hK' => ?_); (repeat (simp only [go_sem, simprocAttr, hwl, c1, c2])); ((refine hK' _ _ ?_) <;> clear hK' K'))); all_goals (refine al_nil ?_; (simp only [go_sem, simprocAttr, hwl, c1, c2]); refine hK _ ?_; clear hK K))
    refine awp_if (_) rfl (fun hc => ?_) (fun hc => ?_)
    · cases hc
    · refine awp_skip ?_
      refine hK _ ?_; clear hK K
      (refine awp_reg_seq [0, 2, 3, 8, 13, 14] fun K hK => ?_; (repeat' ((refine al_r rfl fun K' hK' => ?_); (repeat (simp only [go_sem, simprocAttr, hwl, c1, c2])); (first | ((refine hK' _ _ ?_) <;> clear hK' K') | ((show AC _ _ (D.fn 62 _) _ _); refine acall_p (f := 62) (e := rfl) (hr := rfl) (k := hK' _ _ ?_) (hc := Try.call62) (h := hrd); clear hK' K')))); all_goals (refine al_nil ?_; (simp only [go_sem, simprocAttr, hwl, c1, c2]); refine hK _ ?_; clear hK K))
      refine awp_seq_k fun K hK => ?_

      (refine awp_reg_seq [0, 2, 3, 8, 13, 14, 49] fun K hK => ?_; (repeat' ((refine al_r rfl fun K' hK' => ?_); (repeat (simp only [go_sem, simprocAttr, bne_self_eq_false])); ((refine hK' _ _ ?_) <;> clear hK' K'))); all_goals (refine al_nil ?_; (simp only [go_sem, simprocAttr, bne_self_eq_false]); refine hK _ ?_; clear hK K))
      refine awp_if (_) rfl (fun hc => ?_) (fun hc => ?_)
      · cases hc
      · refine awp_skip ?_
        refine hK _ ?_; clear hK K
        (refine awp_reg_seq [0, 2, 3, 8, 14, 15] fun K hK => ?_; (repeat' ((first | refine al_r rfl fun K' hK' => ?_ | refine al_d rfl fun K' hK' => ?_); (repeat (first | (simp only [go_sem, simprocAttr, bne_self_eq_false]) | refine AS.mk ?_)); (first | ((first | refine hK' _ _ ?_ | refine ⟨?_, hK' _ _ ?_⟩) <;> clear hK' K' <;> (first | (show alist _ _ _ _ _ _; skip) | (simp; done))) | ((show AC _ _ (D.fn 19 _) _ _); refine acall_p (f := 19) (e := rfl) (hr := rfl) (k := hK' _ _ ?_) (hc := Try.call19) (h := hat); clear hK' K')))); all_goals (refine al_nil ?_; (simp only [go_sem, simprocAttr, bne_self_eq_false]); refine hK _ ?_; clear hK K))
        (refine awp_frz [0, 2, 3, 8, 14, 15] [0, 1] (by decide) (by (simp; done)) ?_; simp only [go_sem, simprocAttr, bne_self_eq_false])
        refine awp_seq_k fun K hK => ?_
        (refine awp_reg_seq [0, 2, 3, 8, 14, 15, 59] fun K hK => ?_; (repeat' ((refine al_r rfl fun K' hK' => ?_); (repeat (simp only [go_sem, simprocAttr, bne_self_eq_false])); ((refine hK' _ _ ?_) <;> clear hK' K'))); all_goals (refine al_nil ?_; (simp only [go_sem, simprocAttr, bne_self_eq_false]); refine hK _ ?_; clear hK K))
        refine awp_if (_) rfl (fun hc => ?_) (fun hc => ?_)
        · cases hc
        · refine awp_skip ?_
          refine hK _ ?_; clear hK K

          refine awp_draw_seq (by kernel_rfl) [0, 2, 3, 8, 15, 16] fun K hK => ?_
          have key : K (⟨ofL [(0, words g), (2, iD nest), (3, .ptr 0 0 0), (8, .ptr 1 0 0), (15, .rd [.lit (.int .i64 o.at_), .lit (.int .i64 o.kind), .lit (.int .i64 o.num), .lit (.string o.text), .sl (o.parts.map wrow)] 0), (16, .ptr 2 0 0)], [.box [iD (left - 1)], .box [iD 0, iD 0, .p (.lit (.string ByteArray.empty)), .nil], .box [iD k, iD o.num, .p (.lit (.string o.text)), .nil]], 1⟩) := by
            refine hK _ ?_; clear hK K
            refine awp_born_box 2 3 4 rfl rfl ?_
            simp only [go_sem, simprocAttr, List.length_map]
            refine awp_seq_k fun K hK => ?_

            (refine awp_reg_seq [0, 2, 3, 8, 16, 71, 72, 73] fun K hK => ?_; (repeat' ((refine al_r rfl fun K' hK' => ?_); (repeat (simp only [go_sem, simprocAttr, List.length_map])); ((first | refine hK' _ _ ?_ | refine ⟨?_, hK' _ _ ?_⟩) <;> clear hK' K' <;> (first | (show alist _ _ _ _ _ _; skip) | (intro s hs; cases hs; done))))); all_goals (refine al_nil ?_; (simp only [go_sem, simprocAttr, List.length_map]); refine hK _ ?_; clear hK K))
            refine awp_block ?_
            -- loop 0 head [0, 2, 3, 8, 16, 71, 72, 73]
            refine awp_loop_cut (fun m s => ∃ (i : Nat) (lf : Int) (acc : List (List PV)), i ≤ o.parts.length ∧ m = o.parts.length - i ∧ acc.length = i ∧ 0 ≤ lf ∧ lf ≤ 400 ∧ RC = runC (cs.drop i) lf acc ∧ s = ⟨ofL [(0, words g), (2, iD nest), (3, .ptr 0 0 0), (8, .ptr 1 0 0), (16, .ptr 2 0 0), (71, words o.parts), (72, iD o.parts.length), (73, iD i)], [.box [iD lf], .box [iD 0, iD 0, .p (.lit (.string ByteArray.empty)), .nil], .box [iD k, iD o.num, .p (.lit (.string o.text)), .ref 3 0 acc.length], .row 4 acc], 1⟩) ⟨_, 0, left - 1, [], Nat.zero_le _, rfl, rfl, by omega, by omega, hRC, rfl⟩ ?_
            clear hRC
            rintro m s ⟨i, lf, acc, hi, hmi, hacc, hlf0, hlf4, hRC, rfl⟩
            (refine awp_reg_seq [0, 2, 3, 8, 16, 71, 72, 73, 74] fun K hK => ?_; (repeat' ((refine al_r rfl fun K' hK' => ?_); (repeat (simp only [go_sem, simprocAttr, List.length_map])); ((refine hK' _ _ ?_) <;> clear hK' K'))); all_goals (refine al_nil ?_; (simp only [go_sem, simprocAttr, List.length_map]); refine hK _ ?_; clear hK K))
            refine awp_seq_k fun K hK => ?_
            refine awp_if (decide ((i : Int) < (o.parts.length : Int))) rfl (fun hc => ?_) (fun hc => ?_)
            · refine awp_skip ?_
              refine hK _ ?_; clear hK K
              refine awp_seq_k fun K hK => ?_
              refine awp_block ?_
              have hi2 : i < o.parts.length := by simpa using hc
              obtain ⟨w1, hgw⟩ := get_of_lt hi2
              obtain ⟨c, hgc⟩ := get_of_lt (l := cs) (i := i) (by omega)
              have hgl := lt_of_get hgw
              have hnn : (0 : Int) ≤ (i : Int) := Int.natCast_nonneg i
              have hnx : IntKind.i64.wrap ((i : Int) + 1) = ((i + 1 : Nat) : Int) := by rw [Go.Ab.wrap_small (by omega) (by omega)]; rfl
              obtain ⟨hch, hr1, hr2, hr3, hr4⟩ := hcs i w1 c hgw hgc lf hlf0 hlf4
              unfold ReadsTo at hch
              have hR2 : RC = if (c lf).2.1 != 0 then ([], (c lf).2.1, (c lf).2.2) else runC (cs.drop (i + 1)) (c lf).2.2 (acc ++ [(c lf).1]) := by rw [hRC, drop_of hgc]; rfl
              clear hRC
              generalize c lf = r at hch hr1 hr2 hr3 hr4 hR2
              obtain ⟨x, e1, l2⟩ := r
              simp only at hch hr1 hr2 hr3 hr4 hR2
              obtain ⟨k', n', t', a', rfl⟩ := hr1.form
              simp only [List.map_cons, List.map_nil] at hch
              have hta : List.take acc.length acc = acc := List.take_length
              have hfi : (acc.length + 1) * 56 ≤ 140737488355328 := by omega

              (refine awp_reg_seq [0, 2, 3, 8, 16, 18, 71, 72, 73] fun K hK => ?_; (repeat' ((refine al_r rfl fun K' hK' => ?_); (repeat (simp only [go_sem, simprocAttr, hgw, hgl, hnn, hnx, hwn, hta, hfi, Int.toNat_natCast, List.getElem?_map, Option.map_some, List.length_map, List.drop_zero])); ((refine hK' _ _ ?_) <;> clear hK' K'))); all_goals (refine al_nil ?_; (simp only [go_sem, simprocAttr, hgw, hgl, hnn, hnx, hwn, hta, hfi, Int.toNat_natCast, List.getElem?_map, Option.map_some, List.length_map, List.drop_zero]); refine hK _ ?_; clear hK K))
              (refine awp_reg_seq [0, 2, 3, 8, 16, 19, 20, 71, 72, 73] fun K hK => ?_; (repeat' ((first | refine al_r rfl fun K' hK' => ?_ | refine al_d rfl fun K' hK' => ?_); (repeat (first | (simp only [go_sem, simprocAttr, hgw, hgl, hnn, hnx, hwn, hta, hfi, Int.toNat_natCast, List.getElem?_map, Option.map_some, List.length_map, List.drop_zero]) | refine AS.mk ?_)); (first | ((first | refine hK' _ _ ?_ | refine ⟨?_, hK' _ _ ?_⟩) <;> clear hK' K' <;> (first | (show alist _ _ _ _ _ _; skip) | (simp; done))) | ((show AC _ _ (D.fn 58 _) _ _); refine acall_m (f := 58) [0] Try.call58 hch rfl rfl (by decide) (by simp) ?_; rintro r obs' ⟨rfl, rfl⟩; refine ⟨by simp, ?_⟩; (simp only [go_sem, simprocAttr, hgw, hgl, hnn, hnx, hwn, hta, hfi, Int.toNat_natCast, List.getElem?_map, Option.map_some, List.length_map, List.drop_zero]); refine hK' _ _ ?_; clear hK' K')))); all_goals (refine al_nil ?_; (simp only [go_sem, simprocAttr, hgw, hgl, hnn, hnx, hwn, hta, hfi, Int.toNat_natCast, List.getElem?_map, Option.map_some, List.length_map, List.drop_zero]); refine hK _ ?_; clear hK K))
              (refine awp_frz [0, 2, 3, 8, 16, 19, 20, 71, 72, 73] [0, 1, 2, 3] (by decide) (by (simp; done)) ?_; simp only [go_sem, simprocAttr, hgw, hgl, hnn, hnx, hwn, hta, hfi, Int.toNat_natCast, List.getElem?_map, Option.map_some, List.length_map, List.drop_zero])
              refine awp_seq_k fun K hK => ?_

              (refine awp_reg_seq [0, 2, 3, 8, 16, 19, 20, 71, 72, 73, 87] fun K hK => ?_; (repeat' ((refine al_r rfl fun K' hK' => ?_); (repeat (simp only [go_sem, simprocAttr, hta, hfi, hnx, List.drop_zero])); ((refine hK' _ _ ?_) <;> clear hK' K'))); all_goals (refine al_nil ?_; (simp only [go_sem, simprocAttr, hta, hfi, hnx, List.drop_zero]); refine hK _ ?_; clear hK K))
              refine awp_if (e1 != 0) rfl (fun hc => ?_) (fun hc => ?_)
              · (refine awp_reg_seq [8, 9] fun K hK => ?_; (repeat' ((first | refine al_r rfl fun K' hK' => ?_ | refine al_d rfl fun K' hK' => ?_); (repeat (first | (simp only [go_sem, simprocAttr, hta, hfi, hnx, List.drop_zero]) | refine AS.mk ?_)); ((first | refine hK' _ _ ?_ | refine ⟨?_, hK' _ _ ?_⟩) <;> clear hK' K' <;> (first | (show alist _ _ _ _ _ _; skip) | (simp; done))))); all_goals (refine al_nil ?_; (simp only [go_sem, simprocAttr, hta, hfi, hnx, List.drop_zero]); refine hK _ ?_; clear hK K))
                rw [if_pos hc] at hR2
                have hV3 : V = (zrow, e1, l2) := by rw [hV, hR2, if_pos hc]
                (refine awp_frz [8, 9] [0] (by decide) (by (simp; done)) ?_; simp only [go_sem, simprocAttr, hta, hfi, hnx, List.drop_zero])
                refine awp_ret (hR _ _ (.inl rfl) rfl ⟨[0], (.tup [.agg (V.1.map .p), iD V.2.1]), by decide, by simp only [List.length_cons, List.length_nil]; decide, ?_, ?_⟩)
                · simp only [go_sem, simprocAttr, hta, hfi, hnx, List.drop_zero, hV3, List.map_cons, List.map_nil]
                · refine ⟨?_, ?_⟩ <;> simp only [go_sem, simprocAttr, hta, hfi, hnx, List.drop_zero, hV3, List.map_cons, List.map_nil]
              · have he0 : e1 = 0 := by simpa using hc
                rw [if_neg (by rw [hc]; exact Bool.false_ne_true)] at hR2
                refine awp_skip ?_
                refine hK _ ?_; clear hK K
                (refine awp_reg_end [0, 2, 3, 8, 16, 71, 72, 73] fun K hK => ?_; (repeat' ((first | refine al_r rfl fun K' hK' => ?_ | refine al_d rfl fun K' hK' => ?_); (repeat (first | (simp only [go_sem, simprocAttr, hta, hfi, hnx, List.drop_zero]) | refine AS.mk ?_ | refine AAp.grow ?_)); ((first | refine hK' _ _ ?_ | refine ⟨?_, hK' _ _ ?_⟩ | refine ⟨?_, ?_, hK' _ _ ?_⟩) <;> clear hK' K' <;> (first | (show alist _ _ _ _ _ _; skip) | (simp; done))))); all_goals (refine al_nil ?_; (simp only [go_sem, simprocAttr, hta, hfi, hnx, List.drop_zero]); refine hK _ ?_; clear hK K))
                refine hK _ ?_; clear hK K
                (refine awp_reg_end [0, 2, 3, 8, 16, 71, 72, 73] fun K hK => ?_; (repeat' ((refine al_r rfl fun K' hK' => ?_); (repeat (simp only [go_sem, simprocAttr, hta, hfi, hnx, List.drop_zero])); ((refine hK' _ _ ?_) <;> clear hK' K'))); all_goals (refine al_nil ?_; (simp only [go_sem, simprocAttr, hta, hfi, hnx, List.drop_zero]); refine hK _ ?_; clear hK K))
                refine ⟨o.parts.length - (i + 1), by omega, [0, 2, 3, 8, 16, 71, 72, 73], [0, 1, 2, 5], by decide, (fun q hq => by have : q = 0 := Nat.lt_one_iff.1 hq; subst this; rfl), i + 1, l2, acc ++ [[.lit (.int .i64 k'), .lit (.int .i64 n'), .lit (.string t'), .sl a']], hi2, rfl, by simp [hacc], hr4 he0, by omega, hR2, ?_⟩
                simp only [go_sem, simprocAttr, hta, hfi, hnx, List.drop_zero, List.length_append, List.length_cons, List.length_nil]

            · have hie : i = o.parts.length := by simp at hc; omega
              rw [hie, ← hcl, List.drop_length] at hRC
              have hR2 : RC = (acc, 0, lf) := hRC
              have hV3 : V = ([.lit (.int .i64 k), .lit (.int .i64 o.num), .lit (.string o.text), .sl acc], 0, lf) := by rw [hV, hR2]; rfl
              have hta : List.take acc.length acc = acc := List.take_length
              refine awp_exit ?_
              clear hK
              refine hK _ ?_; clear hK K
              (refine awp_reg_seq [8, 9] fun K hK => ?_; (repeat' ((first | refine al_r rfl fun K' hK' => ?_ | refine al_d rfl fun K' hK' => ?_); (repeat (first | (simp only [go_sem, simprocAttr, List.length_map]) | refine AS.mk ?_)); ((first | refine hK' _ _ ?_ | refine ⟨?_, hK' _ _ ?_⟩) <;> clear hK' K' <;> (first | (show alist _ _ _ _ _ _; skip) | (simp; done))))); all_goals (refine al_nil ?_; (simp only [go_sem, simprocAttr, List.length_map]); refine hK _ ?_; clear hK K))
              (refine awp_frz [8, 9] [0] (by decide) (by (simp; done)) ?_; simp only [go_sem, simprocAttr, List.length_map])
              refine awp_ret (hR _ _ (.inl rfl) rfl ⟨[0], (.tup [.agg (V.1.map .p), iD V.2.1]), by decide, by simp only [List.length_cons, List.length_nil]; decide, ?_, ?_⟩)
              · simp only [go_sem, simprocAttr, List.length_map, hV3, hta, List.map_cons, List.map_nil]
              · refine ⟨?_, ?_⟩ <;> simp only [go_sem, simprocAttr, List.length_map, hV3, List.map_cons, List.map_nil]
          ((refine ah_r 0 rfl (by kernel_rfl) rfl fun K' hK' => ?_); (simp only [go_sem, simprocAttr, List.length_map]); ((refine hK' _ ?_); clear hK' K'))
          ((refine ah_r 1 rfl (by kernel_rfl) rfl fun K' hK' => ?_); (simp only [go_sem, simprocAttr, List.length_map]); ((refine hK' _ ?_); clear hK' K'))
          ((refine ah_r 3 rfl (by kernel_rfl) rfl fun K' hK' => ?_); (simp only [go_sem, simprocAttr, List.length_map]); ((refine hK' _ ?_); clear hK' K'))
          ((refine ah_r 4 rfl (by kernel_rfl) rfl fun K' hK' => ?_); (simp only [go_sem, simprocAttr, List.length_map]); ((refine hK' _ ?_); clear hK' K'))
          ((refine ah_r 5 rfl (by kernel_rfl) rfl fun K' hK' => ?_); (simp only [go_sem, simprocAttr, List.length_map]); ((refine hK' _ ?_); clear hK' K'))
          ((refine ah_r 6 rfl (by kernel_rfl) rfl fun K' hK' => ?_); (simp only [go_sem, simprocAttr, List.length_map]); ((refine hK' _ ?_); clear hK' K'))
          refine ah_two 2 8 rfl rfl (by kernel_rfl) ?_ ?_
          · ((repeat' ((refine al_r rfl fun K' hK' => ?_); (repeat (simp only [go_sem, simprocAttr, List.length_map])); ((show AC _ _ (D.fn 82 _) _ _); refine acall_p (f := 82) (e := rfl) (hr := rfl) (k := hK' _ _ ?_) (hc := Try.call82) (h := hki); clear hK' K'))); all_goals refine al_nil ?_)
            refine ah_two 7 8 rfl rfl (by kernel_rfl) ?_ ?_
            · ((repeat' ((refine al_r rfl fun K' hK' => ?_); (repeat (simp only [go_sem, simprocAttr, List.length_map])); ((refine hK' _ _ ?_) <;> clear hK' K'))); all_goals refine al_nil ?_)
              (refine ah_one 8 rfl (by kernel_rfl) ?_; (repeat' ((refine al_r rfl fun K' hK' => ?_); (repeat (simp only [go_sem, simprocAttr, List.length_map])); ((refine hK' _ _ ?_) <;> clear hK' K'))); all_goals refine al_nil ?_)
              (refine ah_one 9 rfl (by kernel_rfl) ?_; (repeat' ((refine al_d rfl fun K' hK' => ?_); (repeat (first | (simp only [go_sem, simprocAttr, List.length_map]) | refine AS.mk ?_)); ((refine ⟨?_, hK' _ _ ?_⟩) <;> clear hK' K' <;> (first | (show alist _ _ _ _ _ _; skip) | (simp; done))))); all_goals refine al_nil ?_)
              (refine ah_done (by kernel_rfl) ?_; (simp only [go_sem, simprocAttr, List.length_map]); exact key)
            · ((repeat' ((refine al_r rfl fun K' hK' => ?_); (repeat (simp only [go_sem, simprocAttr, List.length_map])); ((refine hK' _ _ ?_) <;> clear hK' K'))); all_goals refine al_nil ?_)
              (refine ah_one 7 rfl (by kernel_rfl) ?_; (repeat' ((refine al_r rfl fun K' hK' => ?_); (repeat (simp only [go_sem, simprocAttr, List.length_map])); ((refine hK' _ _ ?_) <;> clear hK' K'))); all_goals refine al_nil ?_)
              (refine ah_one 9 rfl (by kernel_rfl) ?_; (repeat' ((refine al_d rfl fun K' hK' => ?_); (repeat (first | (simp only [go_sem, simprocAttr, List.length_map]) | refine AS.mk ?_)); ((refine ⟨?_, hK' _ _ ?_⟩) <;> clear hK' K' <;> (first | (show alist _ _ _ _ _ _; skip) | (simp; done))))); all_goals refine al_nil ?_)
              (refine ah_done (by kernel_rfl) ?_; (simp only [go_sem, simprocAttr, List.length_map]); exact key)
          · ((repeat' ((refine al_r rfl fun K' hK' => ?_); (repeat (simp only [go_sem, simprocAttr, List.length_map])); ((refine hK' _ _ ?_) <;> clear hK' K'))); all_goals refine al_nil ?_)
            (refine ah_one 2 rfl (by kernel_rfl) ?_; (repeat' ((refine al_r rfl fun K' hK' => ?_); (repeat (simp only [go_sem, simprocAttr, List.length_map])); ((show AC _ _ (D.fn 82 _) _ _); refine acall_p (f := 82) (e := rfl) (hr := rfl) (k := hK' _ _ ?_) (hc := Try.call82) (h := hki); clear hK' K'))); all_goals refine al_nil ?_)
            (refine ah_one 7 rfl (by kernel_rfl) ?_; (repeat' ((refine al_r rfl fun K' hK' => ?_); (repeat (simp only [go_sem, simprocAttr, List.length_map])); ((refine hK' _ _ ?_) <;> clear hK' K'))); all_goals refine al_nil ?_)
            (refine ah_one 9 rfl (by kernel_rfl) ?_; (repeat' ((refine al_d rfl fun K' hK' => ?_); (repeat (first | (simp only [go_sem, simprocAttr, List.length_map]) | refine AS.mk ?_)); ((refine ⟨?_, hK' _ _ ?_⟩) <;> clear hK' K' <;> (first | (show alist _ _ _ _ _ _; skip) | (simp; done))))); all_goals refine al_nil ?_)
            (refine ah_done (by kernel_rfl) ?_; (simp only [go_sem, simprocAttr, List.length_map]); exact key)
end Go.Proofs.Ytagphggcdmjlpaa.P

/- What is read of the new heap is what is read of the old one. -/
namespace Go.Proofs.Ytagphggcdmjlpaa.P
open Go.Ab Go.Proofs.Ytagphggcdmjlpaa.T

theorem runC_ok {f : Nat} : ∀ (cs : List (Int → List PV × Int × Int)) (lf : Int) (acc : List (List PV)), (∀ c, c ∈ cs → ∀ lf, 0 ≤ lf → lf ≤ 400 → ResOk f lf (c lf)) → (∀ x, x ∈ acc → Val f x) → 0 ≤ lf → lf ≤ 400 →
    -1 ≤ (runC cs lf acc).2.2 ∧ (runC cs lf acc).2.2 ≤ lf ∧ ((runC cs lf acc).2.1 = 0 → 0 ≤ (runC cs lf acc).2.2 ∧ (runC cs lf acc).1.length = acc.length + cs.length ∧ ∀ x, x ∈ (runC cs lf acc).1 → Val f x)
  | [], lf, acc, _, ha, h0, _ => ⟨by show -1 ≤ lf; omega, Int.le_refl _, fun _ => ⟨h0, by simp [runC], ha⟩⟩
  | c :: cs, lf, acc, hc, ha, h0, h4 => by
    obtain ⟨r1, r2, r3, r4⟩ := hc c List.mem_cons_self lf h0 h4
    have e : runC (c :: cs) lf acc = if (c lf).2.1 != 0 then ([], (c lf).2.1, (c lf).2.2) else runC cs (c lf).2.2 (acc ++ [(c lf).1]) := rfl
    rw [e]
    by_cases hz : (c lf).2.1 = 0
    · rw [if_neg (by simp [hz])]
      obtain ⟨q1, q2, q3⟩ := runC_ok cs (c lf).2.2 (acc ++ [(c lf).1]) (fun d hd => hc d (List.mem_cons_of_mem _ hd)) (fun x hx => by
        rcases List.mem_append.1 hx with hx | hx
        · exact ha x hx
        · rcases List.mem_singleton.1 hx with rfl; exact r1) (r4 hz) (by omega)
      refine ⟨q1, by omega, fun h => ?_⟩
      obtain ⟨a, b, c⟩ := q3 h
      exact ⟨a, by rw [b, List.length_append, List.length_cons, List.length_cons, List.length_nil]; omega, c⟩
    · rw [if_pos (by simpa using hz)]
      exact ⟨r2, r3, fun h => absurd h hz⟩

theorem zval {f : Nat} : Val (f + 1) zrow := ⟨0, 0, ByteArray.empty, [], rfl, by simp, fun x hx => by cases hx⟩

theorem node_ok {f : Nat} {k num left : Int} {text : ByteArray} {cs : List (Int → List PV × Int × Int)} (hc : ∀ c, c ∈ cs → ∀ lf, 0 ≤ lf → lf ≤ 400 → ResOk f lf (c lf)) (hl1 : 1 ≤ left) (hl2 : left ≤ 400) (hn : cs.length ≤ 400) :
    ResOk (f + 1) left (nodeR k num text (runC cs (left - 1) [])) := by
  obtain ⟨q1, q2, q3⟩ := runC_ok cs (left - 1) [] hc (fun x hx => by cases hx) (by omega) (by omega)
  generalize runC cs (left - 1) [] = R at *
  obtain ⟨a, e, lf⟩ := R
  simp only at q1 q2 q3
  unfold nodeR
  by_cases he : e = 0
  · rw [if_neg (by simp [he])]
    obtain ⟨b1, b2, b3⟩ := q3 he
    exact ⟨⟨k, num, text, a, rfl, by simp at b2; omega, b3⟩, by simp only; omega, by simp only; omega, fun _ => b1⟩
  · rw [if_pos (by simpa using he)]
    exact ⟨zval, q1, by simp only; omega, fun h => absurd h he⟩

theorem readVal (g : List Int) (w k n e : Int) (text : ByteArray) (args : List (List PV)) (lf : Int)
    (hre : ACalls Try.prog 58 [words g, wD w, iD 40, .ptr 0 0 0] [.box [iD 400]] (fun r obs' => r = .tup [valD k n text args, iD e] ∧ obs' = [.box [iD lf]])) : ACallP Try.prog 25 [words g, wD w] (.tup [valD k n text args, iD e]) := by
  refine acallp_fnv [.cell 4 38, .tmp 5] Try.func25 rfl rfl Try.ntmps25 (by simp) fun R hR => ?_
  (refine awp_reg_seq [0, 1, 4] fun K hK => ?_; (repeat' ((refine al_r rfl fun K' hK' => ?_); (repeat (simp only [go_sem, simprocAttr])); ((refine hK' _ _ ?_) <;> clear hK' K'))); all_goals (refine al_nil ?_; (simp only [go_sem, simprocAttr]); refine hK _ ?_; clear hK K))
  (refine awp_reg_seq [0, 1, 4, 6] fun K hK => ?_; (repeat' ((first | refine al_r rfl fun K' hK' => ?_ | refine al_d rfl fun K' hK' => ?_); (repeat (first | (simp only [go_sem, simprocAttr]) | refine AS.mk ?_)); ((first | refine hK' _ _ ?_ | refine ⟨?_, hK' _ _ ?_⟩) <;> clear hK' K' <;> (first | (show alist _ _ _ _ _ _; skip) | (simp; done))))); all_goals (refine al_nil ?_; (simp only [go_sem, simprocAttr]); refine hK _ ?_; clear hK K))
  (refine awp_reg_seq [4, 5] fun K hK => ?_; (repeat' ((first | refine al_r rfl fun K' hK' => ?_ | refine al_d rfl fun K' hK' => ?_); (repeat (first | (simp only [go_sem, simprocAttr]) | refine AS.mk ?_)); (first | ((first | refine hK' _ _ ?_ | refine ⟨?_, hK' _ _ ?_⟩) <;> clear hK' K' <;> (first | (show alist _ _ _ _ _ _; skip) | (simp; done))) | ((show AC _ _ (D.fn 58 _) _ _); refine acall_m (f := 58) [1] Try.call58 hre rfl rfl (by decide) (by simp) ?_; rintro r obs' ⟨rfl, rfl⟩; refine ⟨by simp, ?_⟩; (simp only [go_sem, simprocAttr]); refine hK' _ _ ?_; clear hK' K')))); all_goals (refine al_nil ?_; (simp only [go_sem, simprocAttr]); refine hK _ ?_; clear hK K))
  refine awp_ret ?_; refine hR _ _ (.inl rfl) rfl ?_
  simp only [go_sem, simprocAttr]

theorem read25 {g : List Int} {w : Int} {r : List PV × Int × Int} {f : Nat} (h : ReadsTo g w 40 400 r) (hv : Val f r.1) : ACallP Try.prog 25 [words g, wD w] (.tup [.agg (r.1.map .p), iD r.2.1]) := by
  obtain ⟨xs, e, lf⟩ := r
  obtain ⟨k, n, t, a, e2⟩ := hv.form
  simp only at e2
  subst e2
  exact readVal g w k n e t a lf h
end Go.Proofs.Ytagphggcdmjlpaa.P

/- The reading of any word of any heap: contracts; and that what is carried over is read as it was. -/
namespace Go.Proofs.Ytagphggcdmjlpaa.P
open Go.Ab Go.Proofs.Ytagphggcdmjlpaa.T


theorem readBad1 (g : List Int) (w t n e nest left : Int) (hva : ACallP Try.prog 81 [wD w] (.tup [.agg [iD 0, iD 0, .p (.lit (.string ByteArray.empty)), .p (.sl [])], bD false]))
    (hrd : ACallP Try.prog 62 [wD w] (.tup [iD t, iD n, iD e])) (he : (e != 0) = true) (hn : 1 ≤ nest) (hl1 : 1 ≤ left) (hl2 : left ≤ 400) : ReadsTo g w nest left (zrow, e, left - 1) := by
  unfold ReadsTo
  have hwl : IntKind.i64.wrap (left - 1) = left - 1 := Go.Ab.wrap_small (by omega) (by omega)
  have c1 : decide (left - 1 < 0) = false := by simp; omega
  have c2 : decide (nest < 1) = false := by simp; omega
  refine acallm_fnv [.cell 8 38, .tmp 9] Try.func58 rfl rfl Try.ntmps58 (by simp) (by simp) fun R hR => ?_
  (refine awp_reg_seq [0, 1, 2, 3, 8] fun K hK => ?_; (repeat' ((refine al_r rfl fun K' hK' => ?_); (repeat (simp only [go_sem, simprocAttr])); ((refine hK' _ _ ?_) <;> clear hK' K'))); all_goals (refine al_nil ?_; (simp only [go_sem, simprocAttr]); refine hK _ ?_; clear hK K))
  refine awp_seq_k fun K hK => ?_

  (refine awp_reg_seq [0, 1, 2, 3, 8] fun K hK => ?_; (repeat' ((first | refine al_r rfl fun K' hK' => ?_ | refine al_d rfl fun K' hK' => ?_); (repeat (first | (simp only [go_sem, simprocAttr, hwl, c1, c2]) | refine AS.mk ?_)); ((first | refine hK' _ _ ?_ | refine ⟨?_, hK' _ _ ?_⟩) <;> clear hK' K' <;> (first | (show alist _ _ _ _ _ _; skip) | (simp; done))))); all_goals (refine al_nil ?_; (simp only [go_sem, simprocAttr, hwl, c1, c2]); refine hK _ ?_; clear hK K))
  (refine awp_reg_tov [0, 1, 2, 3, 8, 33] [(33, bD false)] (h := ?_) (k := ?_); · ((repeat' ((first | refine al_r rfl fun K' hK' => ?_ | refine al_t rfl rfl fun K' hK' => ?_); (repeat (simp only [go_sem, simprocAttr, hwl, c1, c2])); ((refine hK' _ _ ?_) <;> clear hK' K'))); all_goals (refine al_nil ?_; simp only [go_sem, simprocAttr, hwl, c1, c2, *, Bool.and_true, Bool.and_false, Bool.true_and, Bool.false_and, Bool.or_true, Bool.true_or, Bool.or_false, Bool.false_or, Bool.not_true, Bool.not_false, Bool.false_eq_true]))); intro K hK; (simp only [go_sem, simprocAttr, hwl, c1, c2]); refine hK _ ?_; clear hK K
  refine awp_if (_) rfl (fun hc => ?_) (fun hc => ?_)
  · cases hc
  · refine awp_skip ?_
    refine hK _ ?_; clear hK K
    refine awp_seq_k fun K hK => ?_
    (refine awp_reg_seq [0, 1, 2, 3, 8, 10, 11] fun K hK => ?_; (repeat' ((first | refine al_r rfl fun K' hK' => ?_ | refine al_d rfl fun K' hK' => ?_); (repeat (first | (simp only [go_sem, simprocAttr, hwl, c1, c2]) | refine AS.mk ?_)); (first | ((first | refine hK' _ _ ?_ | refine ⟨?_, hK' _ _ ?_⟩) <;> clear hK' K' <;> (first | (show alist _ _ _ _ _ _; skip) | (simp; done))) | ((show AC _ _ (D.fn 81 _) _ _); refine acall_p (f := 81) (e := rfl) (hr := rfl) (k := hK' _ _ ?_) (hc := Try.call81) (h := hva); clear hK' K')))); all_goals (refine al_nil ?_; (simp only [go_sem, simprocAttr, hwl, c1, c2]); refine hK _ ?_; clear hK K))
    (refine awp_frz [0, 1, 2, 3, 8, 10, 11] [0, 1] (by decide) (by (simp; done)) ?_; simp only [go_sem, simprocAttr, hwl, c1, c2])
    (refine awp_reg_seq [0, 1, 2, 3, 8, 10, 40] fun K hK => ?_; (repeat' ((refine al_r rfl fun K' hK' => ?_); (repeat (simp only [go_sem, simprocAttr, hwl, c1, c2])); ((refine hK' _ _ ?_) <;> clear hK' K'))); all_goals (refine al_nil ?_; (simp only [go_sem, simprocAttr, hwl, c1, c2]); refine hK _ ?_; clear hK K))
    refine awp_if (_) rfl (fun hc => ?_) (fun hc => ?_)
    · cases hc
    · refine awp_skip ?_
      refine hK _ ?_; clear hK K
      (refine awp_reg_seq [0, 2, 3, 8, 13, 14] fun K hK => ?_; (repeat' ((refine al_r rfl fun K' hK' => ?_); (repeat (simp only [go_sem, simprocAttr, hwl, c1, c2])); (first | ((refine hK' _ _ ?_) <;> clear hK' K') | ((show AC _ _ (D.fn 62 _) _ _); refine acall_p (f := 62) (e := rfl) (hr := rfl) (k := hK' _ _ ?_) (hc := Try.call62) (h := hrd); clear hK' K')))); all_goals (refine al_nil ?_; (simp only [go_sem, simprocAttr, hwl, c1, c2]); refine hK _ ?_; clear hK K))
      refine awp_seq_k fun K hK => ?_

      (refine awp_reg_seq [0, 2, 3, 8, 13, 14, 49] fun K hK => ?_; (repeat' ((refine al_r rfl fun K' hK' => ?_); (repeat (simp only [go_sem, simprocAttr, he])); ((refine hK' _ _ ?_) <;> clear hK' K'))); all_goals (refine al_nil ?_; (simp only [go_sem, simprocAttr, he]); refine hK _ ?_; clear hK K))
      refine awp_if (_) rfl (fun hc => ?_) (fun hc => ?_)
      · (refine awp_reg_seq [8, 9] fun K hK => ?_; (repeat' ((first | refine al_r rfl fun K' hK' => ?_ | refine al_d rfl fun K' hK' => ?_); (repeat (first | (simp only [go_sem, simprocAttr, he]) | refine AS.mk ?_)); ((first | refine hK' _ _ ?_ | refine ⟨?_, hK' _ _ ?_⟩) <;> clear hK' K' <;> (first | (show alist _ _ _ _ _ _; skip) | (simp; done))))); all_goals (refine al_nil ?_; (simp only [go_sem, simprocAttr, he]); refine hK _ ?_; clear hK K))
        (refine awp_frz [8, 9] [0] (by decide) (by (simp; done)) ?_; simp only [go_sem, simprocAttr, he])
        refine awp_ret (hR _ _ (.inl rfl) rfl ⟨[0], (.tup [.agg (zrow.map .p), iD e]), by decide, by simp only [List.length_cons, List.length_nil]; decide, ?_, ?_⟩)
        · simp only [go_sem, simprocAttr, he, List.map_cons, List.map_nil]
        · refine ⟨?_, ?_⟩ <;> simp only [go_sem, simprocAttr, he, List.map_cons, List.map_nil]
      · cases hc


theorem readBad2 (g : List Int) (w n e nest left : Int) (o : Obj) (hva : ACallP Try.prog 81 [wD w] (.tup [.agg [iD 0, iD 0, .p (.lit (.string ByteArray.empty)), .p (.sl [])], bD false]))
    (hrd : ACallP Try.prog 62 [wD w] (.tup [iD 4, iD n, iD 0])) (hat : ACallP Try.prog 19 [words g, iD n] (.tup [objD o, iD e])) (he : (e != 0) = true) (hn : 1 ≤ nest) (hl1 : 1 ≤ left) (hl2 : left ≤ 400) : ReadsTo g w nest left (zrow, e, left - 1) := by
  unfold ReadsTo
  have hwl : IntKind.i64.wrap (left - 1) = left - 1 := Go.Ab.wrap_small (by omega) (by omega)
  have c1 : decide (left - 1 < 0) = false := by simp; omega
  have c2 : decide (nest < 1) = false := by simp; omega
  refine acallm_fnv [.cell 8 38, .tmp 9] Try.func58 rfl rfl Try.ntmps58 (by simp) (by simp) fun R hR => ?_
  (refine awp_reg_seq [0, 1, 2, 3, 8] fun K hK => ?_; (repeat' ((refine al_r rfl fun K' hK' => ?_); (repeat (simp only [go_sem, simprocAttr])); ((refine hK' _ _ ?_) <;> clear hK' K'))); all_goals (refine al_nil ?_; (simp only [go_sem, simprocAttr]); refine hK _ ?_; clear hK K))
  refine awp_seq_k fun K hK => ?_

  (refine awp_reg_seq [0, 1, 2, 3, 8] fun K hK => ?_; (repeat' ((first | refine al_r rfl fun K' hK' => ?_ | refine al_d rfl fun K' hK' => ?_); (repeat (first | (simp only [go_sem, simprocAttr, hwl, c1, c2]) | refine AS.mk ?_)); ((first | refine hK' _ _ ?_ | refine ⟨?_, hK' _ _ ?_⟩) <;> clear hK' K' <;> (first | (show alist _ _ _ _ _ _; skip) | (simp; done))))); all_goals (refine al_nil ?_; (simp only [go_sem, simprocAttr, hwl, c1, c2]); refine hK _ ?_; clear hK K))
  (refine awp_reg_tov [0, 1, 2, 3, 8, 33] [(33, bD false)] (h := ?_) (k := ?_); · ((repeat' ((first | refine al_r rfl fun K' hK' => ?_ | refine al_t rfl rfl fun K' hK' => ?_); (repeat (simp only [go_sem, simprocAttr, hwl, c1, c2])); ((refine hK' _ _ ?_) <;> clear hK' K'))); all_goals (refine al_nil ?_; simp only [go_sem, simprocAttr, hwl, c1, c2, *, Bool.and_true, Bool.and_false, Bool.true_and, Bool.false_and, Bool.or_true, Bool.true_or, Bool.or_false, Bool.false_or, Bool.not_true, Bool.not_false, Bool.false_eq_true]))); intro K hK; (simp only [go_sem, simprocAttr, hwl, c1, c2]); refine hK _ ?_; clear hK K
  refine awp_if (_) rfl (fun hc => ?_) (fun hc => ?_)
  · cases hc
  · refine awp_skip ?_
    refine hK _ ?_; clear hK K
    refine awp_seq_k fun K hK => ?_
    (refine awp_reg_seq [0, 1, 2, 3, 8, 10, 11] fun K hK => ?_; (repeat' ((first | refine al_r rfl fun K' hK' => ?_ | refine al_d rfl fun K' hK' => ?_); (repeat (first | (simp only [go_sem, simprocAttr, hwl, c1, c2]) | refine AS.mk ?_)); (first | ((first | refine hK' _ _ ?_ | refine ⟨?_, hK' _ _ ?_⟩) <;> clear hK' K' <;> (first | (show alist _ _ _ _ _ _; skip) | (simp; done))) | ((show AC _ _ (D.fn 81 _) _ _); refine acall_p (f := 81) (e := rfl) (hr := rfl) (k := hK' _ _ ?_) (hc := Try.call81) (h := hva); clear hK' K')))); all_goals (refine al_nil ?_; (simp only [go_sem, simprocAttr, hwl, c1, c2]); refine hK _ ?_; clear hK K))
    (refine awp_frz [0, 1, 2, 3, 8, 10, 11] [0, 1] (by decide) (by (simp; done)) ?_; simp only [go_sem, simprocAttr, hwl, c1, c2])
    (refine awp_reg_seq [0, 1, 2, 3, 8, 10, 40] fun K hK => ?_; (repeat' ((refine al_r rfl fun K' hK' => ?_); (repeat (simp only [go_sem, simprocAttr, hwl, c1, c2])); ((refine hK' _ _ ?_) <;> clear hK' K'))); all_goals (refine al_nil ?_; (simp only [go_sem, simprocAttr, hwl, c1, c2]); refine hK _ ?_; clear hK K))
    refine awp_if (_) rfl (fun hc => ?_) (fun hc => ?_)
    · cases hc
    · refine awp_skip ?_
      refine hK _ ?_; clear hK K
      (refine awp_reg_seq [0, 2, 3, 8, 13, 14] fun K hK => ?_; (repeat' ((refine al_r rfl fun K' hK' => ?_); (repeat (simp only [go_sem, simprocAttr, hwl, c1, c2])); (first | ((refine hK' _ _ ?_) <;> clear hK' K') | ((show AC _ _ (D.fn 62 _) _ _); refine acall_p (f := 62) (e := rfl) (hr := rfl) (k := hK' _ _ ?_) (hc := Try.call62) (h := hrd); clear hK' K')))); all_goals (refine al_nil ?_; (simp only [go_sem, simprocAttr, hwl, c1, c2]); refine hK _ ?_; clear hK K))
      refine awp_seq_k fun K hK => ?_

      (refine awp_reg_seq [0, 2, 3, 8, 13, 14, 49] fun K hK => ?_; (repeat' ((refine al_r rfl fun K' hK' => ?_); (repeat (simp only [go_sem, simprocAttr, bne_self_eq_false])); ((refine hK' _ _ ?_) <;> clear hK' K'))); all_goals (refine al_nil ?_; (simp only [go_sem, simprocAttr, bne_self_eq_false]); refine hK _ ?_; clear hK K))
      refine awp_if (_) rfl (fun hc => ?_) (fun hc => ?_)
      · cases hc
      · refine awp_skip ?_
        refine hK _ ?_; clear hK K
        (refine awp_reg_seq [0, 2, 3, 8, 14, 15] fun K hK => ?_; (repeat' ((first | refine al_r rfl fun K' hK' => ?_ | refine al_d rfl fun K' hK' => ?_); (repeat (first | (simp only [go_sem, simprocAttr, bne_self_eq_false]) | refine AS.mk ?_)); (first | ((first | refine hK' _ _ ?_ | refine ⟨?_, hK' _ _ ?_⟩) <;> clear hK' K' <;> (first | (show alist _ _ _ _ _ _; skip) | (simp; done))) | ((show AC _ _ (D.fn 19 _) _ _); refine acall_p (f := 19) (e := rfl) (hr := rfl) (k := hK' _ _ ?_) (hc := Try.call19) (h := hat); clear hK' K')))); all_goals (refine al_nil ?_; (simp only [go_sem, simprocAttr, bne_self_eq_false]); refine hK _ ?_; clear hK K))
        (refine awp_frz [0, 2, 3, 8, 14, 15] [0, 1] (by decide) (by (simp; done)) ?_; simp only [go_sem, simprocAttr, bne_self_eq_false])
        refine awp_seq_k fun K hK => ?_

        (refine awp_reg_seq [0, 2, 3, 8, 14, 15, 59] fun K hK => ?_; (repeat' ((refine al_r rfl fun K' hK' => ?_); (repeat (simp only [go_sem, simprocAttr, he])); ((refine hK' _ _ ?_) <;> clear hK' K'))); all_goals (refine al_nil ?_; (simp only [go_sem, simprocAttr, he]); refine hK _ ?_; clear hK K))
        refine awp_if (_) rfl (fun hc => ?_) (fun hc => ?_)
        · (refine awp_reg_seq [8, 9] fun K hK => ?_; (repeat' ((first | refine al_r rfl fun K' hK' => ?_ | refine al_d rfl fun K' hK' => ?_); (repeat (first | (simp only [go_sem, simprocAttr, he]) | refine AS.mk ?_)); ((first | refine hK' _ _ ?_ | refine ⟨?_, hK' _ _ ?_⟩) <;> clear hK' K' <;> (first | (show alist _ _ _ _ _ _; skip) | (simp; done))))); all_goals (refine al_nil ?_; (simp only [go_sem, simprocAttr, he]); refine hK _ ?_; clear hK K))
          (refine awp_frz [8, 9] [0] (by decide) (by (simp; done)) ?_; simp only [go_sem, simprocAttr, he])
          refine awp_ret (hR _ _ (.inl rfl) rfl ⟨[0], (.tup [.agg (zrow.map .p), iD e]), by decide, by simp only [List.length_cons, List.length_nil]; decide, ?_, ?_⟩)
          · simp only [go_sem, simprocAttr, he, List.map_cons, List.map_nil]
          · refine ⟨?_, ?_⟩ <;> simp only [go_sem, simprocAttr, he, List.map_cons, List.map_nil]
        · cases hc

/-- What is read of a word of any heap. -/
def readG (g : List Int) : Nat → Int → Int → List PV × Int × Int
  | 0, _, left => (zrow, 2, left - 1)
  | n + 1, w, left => if left = 0 then (zrow, 2, -1) else
    if (placeS w).2.2 != 0 then (zrow, (placeS w).2.2, left - 1) else
    if (placeS w).2.1 then (if (atS g (placeS w).1).2 != 0 then (zrow, (atS g (placeS w).1).2, left - 1) else
      nodeR (kindsS (atS g (placeS w).1).1.kind) (atS g (placeS w).1).1.num (atS g (placeS w).1).1.text (runC ((atS g (placeS w).1).1.parts.map (readG g n)) (left - 1) []))
    else ([.lit (.int .i64 (valueS w).1), .lit (.int .i64 (valueS w).2.1), .lit (.string ByteArray.empty), .sl []], 0, left - 1)

theorem readG_ok {g : List Int} (hg : g.length ≤ maxLen) (hgo : ∀ w, w ∈ g → WordOk w) : ∀ (n : Nat), n ≤ 500 → ∀ w left, 0 ≤ left → left ≤ 400 → ReadsTo g w n left (readG g n w left) ∧ ResOk (n + 1) left (readG g n w left) := by
  intro n
  induction n with
  | zero =>
    intro _ w left hl0 hl4
    exact ⟨readLarge _ _ _ _ hl0 hl4 (by simp), zval, by show -1 ≤ left - 1; omega, by show left - 1 ≤ left; omega, fun h => by cases h⟩
  | succ n ih =>
    intro hn5 w left hl0 hl4
    unfold readG
    by_cases hl : left = 0
    · subst hl
      rw [if_pos rfl]
      exact ⟨readLarge _ _ _ 0 (by omega) (by omega) (by simp), zval, by simp only; omega, by simp only; omega, fun h => by cases h⟩
    · rw [if_neg hl]
      have hva := valueW w
      have hrd := readW w
      by_cases he : (placeS w).2.2 = 0
      · rw [if_neg (by simp [he])]
        cases hi : (placeS w).2.1 with
        | false =>
          rw [if_neg Bool.false_ne_true]
          have hv3 : (valueS w).2.2 = true := by
            have h1 : (readS w).2.2 = 0 := he
            have hi : ((readS w).2.2 == 0 && (readS w).1 == 4) = false := hi
            rw [h1, beq_self_eq_true, Bool.true_and] at hi
            unfold valueS
            rw [if_neg (by rw [h1, hi]; simp)]
          rw [hv3] at hva
          refine ⟨readLeaf _ w _ _ _ left hva (by omega) (by omega) (by omega), ⟨_, _, _, [], rfl, by simp, fun x hx => by cases hx⟩, by simp only; omega, by simp only; omega, fun _ => by simp only; omega⟩
        | true =>
          rw [if_pos rfl]
          have h1 : (readS w).2.2 = 0 := he
          have h4 : (readS w).1 = 4 := by
            have hi : ((readS w).2.2 == 0 && (readS w).1 == 4) = true := hi
            rw [Bool.and_eq_true, beq_iff_eq, beq_iff_eq] at hi
            exact hi.2
          have e1 : valueS w = (0, 0, false) := by unfold valueS; rw [if_pos (by simp [h4])]
          rw [e1] at hva
          rw [h1, h4] at hrd
          have hat := at_ g (readS w).2.1 hg hgo
          by_cases hae : (atS g (placeS w).1).2 = 0
          · rw [if_neg (by simp [hae])]
            have hae1 : (atS g (readS w).2.1).2 = 0 := hae
            obtain ⟨_, _, _, _, hr, _, _, _⟩ := at_ok hae hg hgo
            rw [hae1] at hat
            change ACallP Try.prog 19 [words g, iD (readS w).2.1] (.tup [objD (atS g (placeS w).1).1, iD 0]) at hat
            generalize (atS g (placeS w).1).1 = o at hat hr
            obtain ⟨kk, hk, hk1, hk5⟩ := right_kind hr
            have hki := kinds o.kind (by omega) (by omega)
            have hpl := (right_small hr).2
            have hn1 : ((n + 1 : Nat) : Int) - 1 = (n : Int) := by omega
            refine ⟨readNode g (n + 1) w _ o _ _ left (o.parts.map (readG g n)) hva hrd hat hki (by simp) (by omega) (fun i w1 c h1 h2 lf h3 h5 => ?_) (by omega) (by omega) (by omega) hl4, node_ok (fun c hc2 lf h3 h5 => ?_) (by omega) hl4 (by simp; omega)⟩
            · rw [List.getElem?_map, h1] at h2
              cases h2
              rw [hn1]
              exact ih (by omega) w1 lf h3 h5
            · obtain ⟨p, hp, rfl⟩ := List.mem_map.1 hc2
              exact (ih (by omega) p lf h3 h5).2
          · rw [if_pos (by simpa using hae)]
            exact ⟨readBad2 g w _ _ _ left _ hva hrd hat (by simpa using hae) (by omega) (by omega) hl4, zval, by simp only; omega, by simp only; omega, fun h => absurd h hae⟩
      · rw [if_pos (by simpa using he)]
        have e1 : valueS w = (0, 0, false) := by
          have h1 : (readS w).2.2 ≠ 0 := he
          unfold valueS; rw [if_pos (by simp [h1])]
        rw [e1] at hva
        exact ⟨readBad1 g w _ _ _ _ left hva hrd (by simpa using he) (by omega) (by omega) hl4, zval, by simp only; omega, by simp only; omega, fun h => absurd h he⟩

/-- What Read answers. -/
theorem readAny {g : List Int} (hg : g.length ≤ maxLen) (hgo : ∀ w, w ∈ g → WordOk w) (w : Int) : Val 41 (readG g 40 w 400).1 ∧ ACallP Try.prog 25 [words g, wD w] (.tup [.agg ((readG g 40 w 400).1.map .p), iD (readG g 40 w 400).2.1]) := by
  have h := readG_ok hg hgo 40 (by omega) w 400 (by omega) (by omega)
  exact ⟨h.2.1, read25 h.1 h.2.1⟩

/-- What was carried over is read as it was. -/
theorem read_shr {g b : List Int} {mv : List (Int × Int)} {w0 : Int} (hs : ShrK g b mv w0) : ∀ (n : Nat) (w : Int), KnownK mv w → ∀ left, readG b n (phiK mv w) left = readG g n w left := by
  intro n
  induction n with
  | zero => intro w _ left; rfl
  | succ n ih =>
    intro w hk left
    unfold readG
    by_cases hl : left = 0
    · rw [if_pos hl, if_pos hl]
    · rw [if_neg hl, if_neg hl]
      cases hi : (placeS w).2.1 with
      | false => rw [phiK_not hi, hi, if_neg Bool.false_ne_true, if_neg Bool.false_ne_true]
      | true =>
        obtain ⟨x, hx⟩ := hk.2 hi
        obtain ⟨t, q, o, t1, t2, t3, t4, t5, t6, t7, t8, t9⟩ := hs.to hx
        have hp : placeS (phiK mv w) = ((t : Int), true, 0) := by rw [phiK_some hi hx, t2]; exact place_word t1
        rw [hp, hk.1, t3, t4]
        simp only [bne_self_eq_false, Bool.false_eq_true, if_false, if_true]
        rw [t5, t6, t7, t8, List.map_map]
        have : o.parts.map (readG b n ∘ phiK mv) = o.parts.map (readG g n) := List.map_congr_left fun p hp => by
          funext lf
          exact ih p (t9 p hp) lf
        rw [this]
end Go.Proofs.Ytagphggcdmjlpaa.P

/- YoungKeeps: the walk. -/
namespace Go.Proofs.Ytagphggcdmjlpaa.P
open Go.Ab Go.Proofs.Ytagphggcdmjlpaa.T


theorem sameNode (f : Nat) (ih : ∀ xs, Val f xs → ACallP Try.prog 26 [.agg (xs.map .p), .agg (xs.map .p)] (bD true)) (xs : List PV) (h : Val (f + 1) xs) : ACallP Try.prog 26 [.agg (xs.map .p), .agg (xs.map .p)] (bD true) := by
  obtain ⟨k, n, text, args, rfl, hal, hargs⟩ := h
  have hmax : args.length ≤ maxLen := by simp only [maxLen]; omega
  refine acallp_fn [4] Try.func26 rfl rfl Try.ntmps26 (by simp) fun R hR => ?_
  (refine awp_reg_seq [2, 3] fun K hK => ?_; (repeat' ((refine al_r rfl fun K' hK' => ?_); (repeat (simp only [go_sem, simprocAttr])); ((refine hK' _ _ ?_) <;> clear hK' K'))); all_goals (refine al_nil ?_; (simp only [go_sem, simprocAttr]); refine hK _ ?_; clear hK K))
  (refine awp_frz [2, 3] [] (by decide) (by (simp; done)) ?_; simp only [go_sem, simprocAttr])
  refine awp_seq_k fun K hK => ?_

  refine awp_reg_tov [2, 3, 33] [(33, bD false)] (h := ?_) (k := ?_)
  · all_goals ((repeat' (first | ((first | refine al_r rfl fun K' hK' => ?_ | refine al_t rfl rfl fun K' hK' => ?_); (repeat (simp only [go_sem, simprocAttr, bne_self_eq_false])); ((first | refine hK' _ _ ?_ | refine ⟨?_, hK' _ _ ?_⟩) <;> clear hK' K' <;> (first | (show alist _ _ _ _ _ _; skip) | (intro s hs; cases hs; done)))) | refine al_e rfl rfl ?_ | ((fail_if_success (refine al_t rfl rfl fun K' hK' => ?_)); refine al_s _ rfl rfl rfl (fun hb => ?_) (fun hb => ?_)))); all_goals (refine al_nil ?_; (first | (simp only [go_sem, simprocAttr, bne_self_eq_false, *, Bool.and_true, Bool.and_false, Bool.true_and, Bool.false_and, Bool.or_true, Bool.true_or, Bool.or_false, Bool.false_or, Bool.not_true, Bool.not_false, Bool.false_eq_true]; done) | (simp_all; done))))
  (intro K hK; (simp only [go_sem, simprocAttr, bne_self_eq_false]); refine hK _ ?_; clear hK K)
  refine awp_if (_) rfl (fun hc => ?_) (fun hc => ?_)
  · cases hc
  · refine awp_skip ?_
    refine hK _ ?_; clear hK K
    refine awp_seq_k fun K hK => ?_
    (refine awp_reg_seq [2, 3, 36, 37] fun K hK => ?_; (repeat' ((refine al_r rfl fun K' hK' => ?_); (repeat (simp only [go_sem, simprocAttr, bne_self_eq_false])); ((first | refine hK' _ _ ?_ | refine ⟨?_, hK' _ _ ?_⟩) <;> clear hK' K' <;> (first | (show alist _ _ _ _ _ _; skip) | (intro s hs; cases hs; done))))); all_goals (refine al_nil ?_; (simp only [go_sem, simprocAttr, bne_self_eq_false]); refine hK _ ?_; clear hK K))
    refine awp_block ?_
    -- loop 0 head [2, 3, 36, 37]
    refine awp_loop (fun m s => ∃ i : Nat, i ≤ args.length ∧ m = args.length - i ∧ s = ⟨ofL [(2, .rd [.lit (.int .i64 k), .lit (.int .i64 n), .lit (.string text), .sl args] 0), (3, .rd [.lit (.int .i64 k), .lit (.int .i64 n), .lit (.string text), .sl args] 0), (36, iD args.length), (37, iD i)], [], 0⟩) ⟨_, 0, Nat.zero_le _, rfl, rfl⟩ ?_
    rintro m s ⟨i, hi, rfl, rfl⟩
    (refine awp_reg_seq [2, 3, 36, 37, 38] fun K hK => ?_; (repeat' ((refine al_r rfl fun K' hK' => ?_); (repeat (simp only [go_sem, simprocAttr, bne_self_eq_false])); ((refine hK' _ _ ?_) <;> clear hK' K'))); all_goals (refine al_nil ?_; (simp only [go_sem, simprocAttr, bne_self_eq_false]); refine hK _ ?_; clear hK K))
    refine awp_seq_k fun K hK => ?_
    refine awp_if (decide ((i : Int) < args.length)) rfl (fun hc => ?_) (fun hc => ?_)
    · refine awp_skip ?_
      refine hK _ ?_; clear hK K
      refine awp_seq_k fun K hK => ?_
      refine awp_block ?_
      have hi2 : i < args.length := by simpa using hc
      obtain ⟨x, hget⟩ := get_of_lt hi2
      have hnn : (0 : Int) ≤ (i : Int) := Int.natCast_nonneg i
      have hnx : IntKind.i64.wrap ((i : Int) + 1) = ((i + 1 : Nat) : Int) := wrap_next hi2 hmax
      have hxs := hargs x (List.mem_of_getElem? hget)
      have hcall := ih x hxs
      obtain ⟨y0, y1, y2, y3, rfl⟩ := hxs.form
      simp only [List.map_cons, List.map_nil] at hcall

      (refine awp_reg_seq [2, 3, 5, 36, 37] fun K hK => ?_; (repeat' ((refine al_r rfl fun K' hK' => ?_); (repeat (simp only [go_sem, simprocAttr, hget, hnn, hi2, hnx, Int.toNat_natCast])); ((refine hK' _ _ ?_) <;> clear hK' K'))); all_goals (refine al_nil ?_; (simp only [go_sem, simprocAttr, hget, hnn, hi2, hnx, Int.toNat_natCast]); refine hK _ ?_; clear hK K))
      refine awp_draw_tov (by kernel_rfl) [2, 3, 36, 37, 51] [(51, bD false)] (h := ?_) (k := ?_)
      · all_goals ((refine ah_r 0 rfl (by kernel_rfl) rfl fun K' hK' => ?_); (simp only [go_sem, simprocAttr, hget, hnn, hi2, hnx, Int.toNat_natCast]); ((refine hK' _ ?_); clear hK' K'))
        all_goals ((refine ah_r 1 rfl (by kernel_rfl) rfl fun K' hK' => ?_); (simp only [go_sem, simprocAttr, hget, hnn, hi2, hnx, Int.toNat_natCast]); ((refine hK' _ ?_); clear hK' K'))
        all_goals ((refine ah_r 2 rfl (by kernel_rfl) rfl fun K' hK' => ?_); (simp only [go_sem, simprocAttr, hget, hnn, hi2, hnx, Int.toNat_natCast]); ((refine hK' _ ?_); clear hK' K'))
        all_goals ((refine ah_r 3 rfl (by kernel_rfl) rfl fun K' hK' => ?_); (simp only [go_sem, simprocAttr, hget, hnn, hi2, hnx, Int.toNat_natCast]); ((refine hK' _ ?_); clear hK' K'))
        all_goals ((refine ah_r 4 rfl (by kernel_rfl) rfl fun K' hK' => ?_); (simp only [go_sem, simprocAttr, hget, hnn, hi2, hnx, Int.toNat_natCast]); ((refine hK' _ ?_); clear hK' K'))
        all_goals ((refine ah_r 5 rfl (by kernel_rfl) rfl fun K' hK' => ?_); (simp only [go_sem, simprocAttr, hget, hnn, hi2, hnx, Int.toNat_natCast]); ((refine hK' _ ?_); clear hK' K'))
        all_goals ((refine ah_r 6 rfl (by kernel_rfl) rfl fun K' hK' => ?_); (simp only [go_sem, simprocAttr, hget, hnn, hi2, hnx, Int.toNat_natCast]); ((refine hK' _ ?_); clear hK' K'))
        all_goals ((refine ah_r 7 rfl (by kernel_rfl) rfl fun K' hK' => ?_); (simp only [go_sem, simprocAttr, hget, hnn, hi2, hnx, Int.toNat_natCast]); ((refine hK' _ ?_); clear hK' K'))
        all_goals ((refine ah_r 8 rfl (by kernel_rfl) rfl fun K' hK' => ?_); (simp only [go_sem, simprocAttr, hget, hnn, hi2, hnx, Int.toNat_natCast]); ((refine hK' _ ?_); clear hK' K'))
        all_goals ((refine ah_r 9 rfl (by kernel_rfl) rfl fun K' hK' => ?_); (simp only [go_sem, simprocAttr, hget, hnn, hi2, hnx, Int.toNat_natCast]); ((refine hK' _ ?_); clear hK' K'))
        all_goals (refine ah_one 10 rfl (by kernel_rfl) ?_; (repeat' ((refine al_r rfl fun K' hK' => ?_); (repeat (simp only [go_sem, simprocAttr, hget, hnn, hi2, hnx, Int.toNat_natCast])); ((show AC _ _ (D.fn 26 _) _ _); refine acall_p (f := 26) (e := rfl) (hr := rfl) (k := hK' _ _ ?_) (hc := Try.call26) (h := hcall); clear hK' K'))); all_goals refine al_nil ?_)
        all_goals ((refine ah_r 11 rfl (by kernel_rfl) rfl fun K' hK' => ?_); (simp only [go_sem, simprocAttr, hget, hnn, hi2, hnx, Int.toNat_natCast]); ((refine hK' _ ?_); clear hK' K'))
        all_goals (refine ah_done (by kernel_rfl) ?_; simp only [go_sem, simprocAttr, hget, hnn, hi2, hnx, Int.toNat_natCast, *, Bool.and_true, Bool.and_false, Bool.true_and, Bool.false_and, Bool.or_true, Bool.true_or, Bool.or_false, Bool.false_or, Bool.not_true, Bool.not_false, Bool.false_eq_true])
      (intro K hK; (simp only [go_sem, simprocAttr, hget, hnn, hi2, hnx, Int.toNat_natCast]); refine hK _ ?_; clear hK K)
      refine awp_if (_) rfl (fun hc => ?_) (fun hc => ?_)
      · cases hc
      · refine awp_skip ?_
        refine hK _ ?_; clear hK K
        (refine awp_reg_end [2, 3, 36, 37] fun K hK => ?_; (repeat' ((refine al_r rfl fun K' hK' => ?_); (repeat (simp only [go_sem, simprocAttr, hget, hnn, hi2, hnx, Int.toNat_natCast])); ((refine hK' _ _ ?_) <;> clear hK' K'))); all_goals (refine al_nil ?_; (simp only [go_sem, simprocAttr, hget, hnn, hi2, hnx, Int.toNat_natCast]); refine hK _ ?_; clear hK K))
        exact ⟨_, by omega, i + 1, hi2, rfl, rfl⟩

    · refine awp_exit ?_
      clear hK
      refine hK _ ?_; clear hK K
      (refine awp_reg_seq [4] fun K hK => ?_; (repeat' ((refine al_r rfl fun K' hK' => ?_); (repeat (simp only [go_sem, simprocAttr])); ((refine hK' _ _ ?_) <;> clear hK' K'))); all_goals (refine al_nil ?_; (simp only [go_sem, simprocAttr]); refine hK _ ?_; clear hK K))
      all_goals (refine awp_ret ?_; (refine hR _ _ (.inl rfl) rfl ?_); (simp only [go_sem, simprocAttr, *, Bool.and_true, Bool.and_false, Bool.true_and, Bool.false_and, Bool.or_true, Bool.true_or, Bool.or_false, Bool.false_or, Bool.not_true, Bool.not_false, Bool.false_eq_true]; done))

theorem sameVal2 : ∀ (f : Nat) (xs : List PV), Val f xs → ACallP Try.prog 26 [.agg (xs.map .p), .agg (xs.map .p)] (bD true)
  | 0, _, h => h.elim
  | f + 1, xs, h => sameNode f (sameVal2 f) xs h


end Go.Proofs.Ytagphggcdmjlpaa.P

/- CarryShares: the walk. -/
namespace Go.Proofs.Ytagphggcdmjlpaa.P
open Go.Ab Go.Proofs.Ytagphggcdmjlpaa.T


/-- What was carried over. -/
theorem shr_of {g : List Int} {L : List Obj} {w x : Int} {S : CT} (hg4 : g.length ≤ 4000) (hgo : ∀ w, w ∈ g → WordOk w) (hL : Placed L) (h4 : (flat L).length ≤ 4000) (hw : wordK g 40 (g, flat L, []) w = ((x, 0), S)) :
    ShrK g S.2.1 S.2.2 w ∧ x = phiK S.2.2 w ∧ ∃ T, Placed T ∧ S.2.1 = flat T ∧ (flat T).length ≤ 4000 ∧ T.length = L.length + S.2.2.length := by
  obtain ⟨a1, a2, a3, a4, a5, a6⟩ := word_inv hg4 hgo 40 _ w x S (start_inv hL h4) hw
  obtain ⟨N, n1, n2, n3, n4, n5⟩ := a1.ex
  refine ⟨⟨hg4, hgo, by rw [n2]; exact n3, ⟨L ++ N, n1, n2, fun a y hy => ?_⟩, a1.inj, a1.nd, a3, fun a y hy => a6 a y hy rfl⟩, a4, L ++ N, n1, n2, n3, by rw [List.length_append, n4]⟩
  obtain ⟨_, t, q, o, q1, q2⟩ := n5 a y hy
  exact ⟨t, q, o, List.mem_append_right _ q1, q2⟩


end Go.Proofs.Ytagphggcdmjlpaa.P

/- CarryAlike: the walk. -/
namespace Go.Proofs.Ytagphggcdmjlpaa.P
open Go.Ab Go.Proofs.Ytagphggcdmjlpaa.T

theorem good3 (a b c : Int) (G : Bool) (h : ([a, b, c].any fun e => e != 0) = !G) : ACallP Try.prog 20 [.p (.sl [[.lit (.int .i64 a)], [.lit (.int .i64 b)], [.lit (.int .i64 c)]])] (bD G) := by
  have := goodE [a, b, c] (by simp [maxLen])
  rw [h, Bool.not_not] at this
  exact this


theorem alikeBad (g t : List Int) (w k n e1 e3 : Int) (text : ByteArray) (args : List (List PV)) (he : (e3 != 0) = true) (hrd : ACallP Try.prog 25 [words g, wD w] (.tup [valD k n text args, iD e1])) (hce : ACallR Try.prog 30 [words g, wD w] (CellsR g w))
    (hov : ACallP Try.prog 27 [words g, words t, wD w] (.tup [words [], words [], wD 0, iD e3])) : ACallP Try.prog 8 [words g, words t, wD w] (bD true) := by
  refine acallp_fn [6] Try.func8 rfl rfl Try.ntmps8 (by simp) fun R hR => ?_
  (refine awp_reg_seq [0, 1, 2] fun K hK => ?_; (repeat' ((refine al_r rfl fun K' hK' => ?_); (repeat (simp only [go_sem, simprocAttr])); ((refine hK' _ _ ?_) <;> clear hK' K'))); all_goals (refine al_nil ?_; (simp only [go_sem, simprocAttr]); refine hK _ ?_; clear hK K))
  (refine awp_reg_seq [0, 1, 2, 7, 8] fun K hK => ?_; (repeat' ((first | refine al_r rfl fun K' hK' => ?_ | refine al_d rfl fun K' hK' => ?_); (repeat (first | (simp only [go_sem, simprocAttr]) | refine AS.mk ?_)); (first | ((first | refine hK' _ _ ?_ | refine ⟨?_, hK' _ _ ?_⟩) <;> clear hK' K' <;> (first | (show alist _ _ _ _ _ _; skip) | (simp; done))) | ((show AC _ _ (D.fn 25 _) _ _); refine acall_p (f := 25) (e := rfl) (hr := rfl) (k := hK' _ _ ?_) (hc := Try.call25) (h := hrd); clear hK' K')))); all_goals (refine al_nil ?_; (simp only [go_sem, simprocAttr]); refine hK _ ?_; clear hK K))
  (refine awp_reg_seq [0, 1, 2, 7, 8, 9, 10] fun K hK => ?_; (repeat' ((refine al_r rfl fun K' hK' => ?_); (repeat (simp only [go_sem, simprocAttr])); (first | ((refine hK' _ _ ?_) <;> clear hK' K') | ((show AC _ _ (D.fn 30 _) _ _); refine acall_r (f := 30) Try.call30 hce rfl ?_; rintro r ⟨l, e2, rfl, hok, hbad⟩; (simp only [go_sem, simprocAttr]); refine hK' _ _ ?_; clear hK' K')))); all_goals (refine al_nil ?_; (simp only [go_sem, simprocAttr]); refine hK _ ?_; clear hK K))
  (refine awp_reg_seq [0, 1, 2, 7, 8, 9, 10, 11, 12, 13, 14] fun K hK => ?_; (repeat' ((refine al_r rfl fun K' hK' => ?_); (repeat (simp only [go_sem, simprocAttr])); (first | ((refine hK' _ _ ?_) <;> clear hK' K') | ((show AC _ _ (D.fn 27 _) _ _); refine acall_p (f := 27) (e := rfl) (hr := rfl) (k := hK' _ _ ?_) (hc := Try.call27) (h := hov); clear hK' K')))); all_goals (refine al_nil ?_; (simp only [go_sem, simprocAttr]); refine hK _ ?_; clear hK K))
  (refine awp_frz [0, 1, 2, 7, 8, 9, 10, 11, 12, 13, 14] [] (by decide) (by (simp; done)) ?_; simp only [go_sem, simprocAttr])
  have hgd := good3 e1 e2 e3 false (by simp [he])
  refine awp_seq_k fun K hK => ?_
  (refine awp_reg_seq [0, 1, 7, 9, 11, 12, 13, 53] fun K hK => ?_; (repeat' (first | ((first | refine al_r rfl fun K' hK' => ?_ | refine al_t rfl rfl fun K' hK' => ?_); (repeat (simp only [go_sem, simprocAttr])); (first | ((refine hK' _ _ ?_) <;> clear hK' K') | ((show AC _ _ (D.fn 28 _) _ _); refine acall_p (f := 28) (e := rfl) (hr := rfl) (k := hK' _ _ ?_) (hc := Try.call28) (h := carriesT); clear hK' K') | ((show AC _ _ (D.fn 20 _) _ _); refine acall_g (f := 20) (e := rfl) (hr := rfl) (hf := by simp [D.all, D.allL, flatL, flatPV]) (k := hK' _ _ ?_) (hc := Try.call20) (h := hgd); clear hK' K'))) | refine al_e rfl rfl ?_)); all_goals (refine al_nil ?_; (simp only [go_sem, simprocAttr]); refine hK _ ?_; clear hK K))
  refine awp_if (_) rfl (fun hc => ?_) (fun hc => ?_)
  · (refine awp_reg_seq [6] fun K hK => ?_; (repeat' ((refine al_r rfl fun K' hK' => ?_); (repeat (simp only [go_sem, simprocAttr])); (first | ((refine hK' _ _ ?_) <;> clear hK' K') | ((show AC _ _ (D.fn 28 _) _ _); refine acall_p (f := 28) (e := rfl) (hr := rfl) (k := hK' _ _ ?_) (hc := Try.call28) (h := carriesT); clear hK' K')))); all_goals (refine al_nil ?_; (simp only [go_sem, simprocAttr]); refine hK _ ?_; clear hK K))
    all_goals (refine awp_ret ?_; (refine hR _ _ (.inl rfl) rfl ?_); (simp only [go_sem, simprocAttr, *, Bool.and_true, Bool.and_false, Bool.true_and, Bool.false_and, Bool.or_true, Bool.true_or, Bool.or_false, Bool.false_or, Bool.not_true, Bool.not_false, Bool.false_eq_true]; done))
  · cases hc


theorem alikeGood (g t r left : List Int) (w x k n e1 : Int) (text : ByteArray) (args : List (List PV)) (lo : List Obj) (hbl : (t ++ r).length ≤ 4000) (hrd : ACallP Try.prog 25 [words g, wD w] (.tup [valD k n text args, iD e1])) (hce : ACallR Try.prog 30 [words g, wD w] (CellsR g w))
    (hov : ACalls Try.prog 27 [words g, words t, wD w] [] (fun r' obs' => r' = .tup [.ref 0 0 left.length, .ref 1 0 (t ++ r).length, wD x, iD 0] ∧ obs' = [.row 1 (left.map wrow), .row 1 ((t ++ r).map wrow)]))
    (hap : ACallR Try.prog 31 [words g, wD w] (fun r => ∃ B, r = bD B ∧ (B = true → ∀ a, ReachK g w a → (lo.any fun o => o.at_ == a) = true)))
    (hrd2 : ACallP Try.prog 25 [words (t ++ r), wD x] (.tup [valD k n text args, iD e1])) (hsv : ACallP Try.prog 26 [valD k n text args, valD k n text args] (bD true))
    (hgl : g.length ≤ maxLen) (hfin : ∀ l, CellsOk g w l → l = [] → (∀ a, ReachK g w a → (lo.any fun o => o.at_ == a) = true) → left = g) : ACallP Try.prog 8 [words g, words t, wD w] (bD true) := by
  have htl : List.take left.length (left.map wrow) = left.map wrow := List.take_of_length_le (by simp)
  have htb : List.take (t ++ r).length ((t ++ r).map wrow) = (t ++ r).map wrow := List.take_of_length_le (by simp)
  obtain ⟨b, hb⟩ : ∃ b, b = t ++ r := ⟨_, rfl⟩
  have hbt : List.take t.length (b.map wrow) = t.map wrow := by rw [hb, List.map_append]; exact List.take_left' (by simp)
  have hlen : t.length ≤ b.length := by rw [hb]; simp
  rw [← hb] at htb hov hrd2 hbl
  have heq1 : ACallP Try.prog 18 [words t, words t] (bD true) := by
    have := equalW t t (by simp only [maxLen]; omega)
    rw [(listEq_iff eqI_iff).2 rfl] at this
    exact this
  have hl1 : decide ((b.length : Int) < (t.length : Int)) = false := decide_eq_false (by omega)
  have hl2 : (0 : Int) ≤ (t.length : Int) := Int.natCast_nonneg _
  have hl3 : (t.length : Int) ≤ (b.length : Int) := by omega
  refine acallp_fn [6] Try.func8 rfl rfl Try.ntmps8 (by simp) fun R hR => ?_
  (refine awp_reg_seq [0, 1, 2] fun K hK => ?_; (repeat' ((refine al_r rfl fun K' hK' => ?_); (repeat (simp only [go_sem, simprocAttr, bne_self_eq_false])); ((refine hK' _ _ ?_) <;> clear hK' K'))); all_goals (refine al_nil ?_; (simp only [go_sem, simprocAttr, bne_self_eq_false]); refine hK _ ?_; clear hK K))
  (refine awp_reg_seq [0, 1, 2, 7, 8] fun K hK => ?_; (repeat' ((first | refine al_r rfl fun K' hK' => ?_ | refine al_d rfl fun K' hK' => ?_); (repeat (first | (simp only [go_sem, simprocAttr, bne_self_eq_false]) | refine AS.mk ?_)); (first | ((first | refine hK' _ _ ?_ | refine ⟨?_, hK' _ _ ?_⟩) <;> clear hK' K' <;> (first | (show alist _ _ _ _ _ _; skip) | (simp; done))) | ((show AC _ _ (D.fn 25 _) _ _); refine acall_p (f := 25) (e := rfl) (hr := rfl) (k := hK' _ _ ?_) (hc := Try.call25) (h := hrd); clear hK' K')))); all_goals (refine al_nil ?_; (simp only [go_sem, simprocAttr, bne_self_eq_false]); refine hK _ ?_; clear hK K))
  (refine awp_reg_seq [0, 1, 2, 7, 8, 9, 10] fun K hK => ?_; (repeat' ((refine al_r rfl fun K' hK' => ?_); (repeat (simp only [go_sem, simprocAttr, bne_self_eq_false])); (first | ((refine hK' _ _ ?_) <;> clear hK' K') | ((show AC _ _ (D.fn 30 _) _ _); refine acall_r (f := 30) Try.call30 hce rfl ?_; rintro r ⟨l, e2, rfl, hok, hbad⟩; (simp only [go_sem, simprocAttr, bne_self_eq_false]); refine hK' _ _ ?_; clear hK' K')))); all_goals (refine al_nil ?_; (simp only [go_sem, simprocAttr, bne_self_eq_false]); refine hK _ ?_; clear hK K))
  (refine awp_reg_seq [0, 1, 2, 7, 8, 9, 10, 11, 12, 13, 14] fun K hK => ?_; (repeat' ((refine al_r rfl fun K' hK' => ?_); (repeat (simp only [go_sem, simprocAttr, bne_self_eq_false])); (first | ((refine hK' _ _ ?_) <;> clear hK' K') | ((show AC _ _ (D.fn 27 _) _ _); refine acall_new (f := 27) Try.call27 hov rfl ?_; rintro r obs' ⟨rfl, rfl⟩; (simp only [go_sem, simprocAttr, bne_self_eq_false]); refine hK' _ _ ?_; clear hK' K')))); all_goals (refine al_nil ?_; (simp only [go_sem, simprocAttr, bne_self_eq_false]); refine hK _ ?_; clear hK K))

  (refine awp_frz [0, 1, 2, 7, 8, 9, 10, 11, 12, 13, 14] [] (by decide) (by (simp; done)) ?_; simp only [go_sem, simprocAttr, htl, htb, bne_self_eq_false, List.length_map])
  by_cases hz : e1 = 0 ∧ e2 = 0
  rotate_left
  · have hgd := good3 e1 e2 0 false (by
      have : (e1 != 0 || e2 != 0) = true := by
        rw [Bool.or_eq_true, bne_iff_ne, bne_iff_ne]
        exact Decidable.not_and_iff_not_or_not.1 hz
      simp only [List.any_cons, List.any_nil, bne_self_eq_false, Bool.or_false, this, Bool.not_false])
    refine awp_seq_k fun K hK => ?_
    (refine awp_reg_seq [0, 1, 7, 9, 11, 12, 13, 53] fun K hK => ?_; (repeat' (first | ((first | refine al_r rfl fun K' hK' => ?_ | refine al_t rfl rfl fun K' hK' => ?_); (repeat (simp only [go_sem, simprocAttr, htl, htb, bne_self_eq_false, List.length_map])); (first | ((refine hK' _ _ ?_) <;> clear hK' K') | ((show AC _ _ (D.fn 28 _) _ _); refine acall_p (f := 28) (e := rfl) (hr := rfl) (k := hK' _ _ ?_) (hc := Try.call28) (h := carriesT); clear hK' K') | ((show AC _ _ (D.fn 20 _) _ _); refine acall_g (f := 20) (e := rfl) (hr := rfl) (hf := by simp [D.all, D.allL, flatL, flatPV]) (k := hK' _ _ ?_) (hc := Try.call20) (h := hgd); clear hK' K'))) | refine al_e rfl rfl ?_)); all_goals (refine al_nil ?_; (simp only [go_sem, simprocAttr, htl, htb, bne_self_eq_false, List.length_map]); refine hK _ ?_; clear hK K))
    refine awp_if (true) rfl (fun hc => ?_) (fun hc => ?_)
    · (refine awp_reg_seq [6] fun K hK => ?_; (repeat' ((refine al_r rfl fun K' hK' => ?_); (repeat (simp only [go_sem, simprocAttr, htl, htb, bne_self_eq_false, List.length_map])); (first | ((refine hK' _ _ ?_) <;> clear hK' K') | ((show AC _ _ (D.fn 28 _) _ _); refine acall_p (f := 28) (e := rfl) (hr := rfl) (k := hK' _ _ ?_) (hc := Try.call28) (h := carriesT); clear hK' K')))); all_goals (refine al_nil ?_; (simp only [go_sem, simprocAttr, htl, htb, bne_self_eq_false, List.length_map]); refine hK _ ?_; clear hK K))
      all_goals (refine awp_ret ?_; (refine hR _ _ (.inl rfl) rfl ?_); (simp only [go_sem, simprocAttr, htl, htb, bne_self_eq_false, List.length_map, *, Bool.and_true, Bool.and_false, Bool.true_and, Bool.false_and, Bool.or_true, Bool.true_or, Bool.or_false, Bool.false_or, Bool.not_true, Bool.not_false, Bool.false_eq_true]; done))
    · cases hc
  obtain ⟨hz1, hz2⟩ := hz
  subst hz1 hz2
  have hgd := good3 0 0 0 true rfl
  obtain ⟨hok, hll⟩ := hok rfl
  refine awp_seq_k fun K hK => ?_
  (refine awp_reg_seq [0, 1, 7, 9, 11, 12, 13, 53] fun K hK => ?_; (repeat' ((first | refine al_r rfl fun K' hK' => ?_ | refine al_t rfl rfl fun K' hK' => ?_); (repeat (simp only [go_sem, simprocAttr, htl, htb, bne_self_eq_false, List.length_map])); (first | ((refine hK' _ _ ?_) <;> clear hK' K') | ((show AC _ _ (D.fn 28 _) _ _); refine acall_p (f := 28) (e := rfl) (hr := rfl) (k := hK' _ _ ?_) (hc := Try.call28) (h := carriesT); clear hK' K') | ((show AC _ _ (D.fn 20 _) _ _); refine acall_g (f := 20) (e := rfl) (hr := rfl) (hf := by simp [D.all, D.allL, flatL, flatPV]) (k := hK' _ _ ?_) (hc := Try.call20) (h := hgd); clear hK' K') | ((show AC _ _ (D.fn 31 _) _ _); refine acall_r (f := 31) Try.call31 hap rfl ?_; rintro r ⟨B, rfl, hB⟩; (simp only [go_sem, simprocAttr, htl, htb, bne_self_eq_false, List.length_map]); refine hK' _ _ ?_; clear hK' K')))); all_goals (refine al_nil ?_; (simp only [go_sem, simprocAttr, htl, htb, bne_self_eq_false, List.length_map]); refine hK _ ?_; clear hK K))
  refine awp_if (!B) rfl (fun hc => ?_) (fun hc => ?_)
  · (refine awp_reg_seq [6] fun K hK => ?_; (repeat' ((refine al_r rfl fun K' hK' => ?_); (repeat (simp only [go_sem, simprocAttr, htl, htb, bne_self_eq_false, List.length_map])); (first | ((refine hK' _ _ ?_) <;> clear hK' K') | ((show AC _ _ (D.fn 28 _) _ _); refine acall_p (f := 28) (e := rfl) (hr := rfl) (k := hK' _ _ ?_) (hc := Try.call28) (h := carriesT); clear hK' K')))); all_goals (refine al_nil ?_; (simp only [go_sem, simprocAttr, htl, htb, bne_self_eq_false, List.length_map]); refine hK _ ?_; clear hK K))
    all_goals (refine awp_ret ?_; (refine hR _ _ (.inl rfl) rfl ?_); (simp only [go_sem, simprocAttr, htl, htb, bne_self_eq_false, List.length_map, *, Bool.and_true, Bool.and_false, Bool.true_and, Bool.false_and, Bool.or_true, Bool.true_or, Bool.or_false, Bool.false_or, Bool.not_true, Bool.not_false, Bool.false_eq_true]; done))
  · have hBt : B = true := by simpa using hc
    have hB := hB hBt
    refine awp_skip ?_
    refine hK _ ?_; clear hK K
    (refine awp_reg_seq [0, 1, 7, 9, 11, 12, 15, 16] fun K hK => ?_; (repeat' ((first | refine al_r rfl fun K' hK' => ?_ | refine al_d rfl fun K' hK' => ?_); (repeat (first | (simp only [go_sem, simprocAttr, htl, htb, bne_self_eq_false, List.length_map]) | refine AS.mk ?_)); (first | ((first | refine hK' _ _ ?_ | refine ⟨?_, hK' _ _ ?_⟩) <;> clear hK' K' <;> (first | (show alist _ _ _ _ _ _; skip) | (simp; done))) | ((show AC _ _ (D.fn 25 _) _ _); refine acall_p (f := 25) (e := rfl) (hr := rfl) (k := hK' _ _ ?_) (hc := Try.call25) (h := hrd2); clear hK' K')))); all_goals (refine al_nil ?_; (simp only [go_sem, simprocAttr, htl, htb, bne_self_eq_false, List.length_map]); refine hK _ ?_; clear hK K))
    refine awp_seq_k fun K hK => ?_

    refine awp_reg_tov [0, 9, 11, 84] [(84, bD false)] (h := ?_) (k := ?_)
    · all_goals ((repeat' ((first | refine al_r rfl fun K' hK' => ?_ | refine al_t rfl rfl fun K' hK' => ?_); (repeat (simp only [go_sem, simprocAttr, htl, htb, hbt, hl1, hl2, hl3, bne_self_eq_false, List.length_map, Int.toNat_natCast, Nat.sub_zero, List.drop_zero])); (first | ((first | refine hK' _ _ ?_ | refine ⟨?_, hK' _ _ ?_⟩) <;> clear hK' K' <;> (first | (show alist _ _ _ _ _ _; skip) | (intro s hs; cases hs; done) | (simp; done))) | ((show AC _ _ (D.fn 26 _) _ _); refine acall_p (f := 26) (e := rfl) (hr := rfl) (k := hK' _ _ ?_) (hc := Try.call26) (h := hsv); clear hK' K') | ((show AC _ _ (D.fn 18 _) _ _); refine acall_p (f := 18) (e := rfl) (hr := rfl) (k := hK' _ _ ?_) (hc := Try.call18) (h := heq1); clear hK' K')))); all_goals (refine al_nil ?_; (simp only [go_sem, simprocAttr, htl, htb, hbt, hl1, hl2, hl3, bne_self_eq_false, List.length_map, Int.toNat_natCast, Nat.sub_zero, List.drop_zero, *, Bool.and_true, Bool.and_false, Bool.true_and, Bool.false_and, Bool.or_true, Bool.true_or, Bool.or_false, Bool.false_or, Bool.not_true, Bool.not_false, Bool.false_eq_true]; done)))
    (intro K hK; (simp only [go_sem, simprocAttr, htl, htb, hbt, hl1, hl2, hl3, bne_self_eq_false, List.length_map, Int.toNat_natCast, Nat.sub_zero, List.drop_zero]); refine hK _ ?_; clear hK K)
    refine awp_if (_) rfl (fun hc => ?_) (fun hc => ?_)
    · cases hc
    · refine awp_skip ?_
      refine hK _ ?_; clear hK K
      have heq2 : l = [] → ACallP Try.prog 18 [words left, words g] (bD true) := fun hl => by
        rw [hfin l hok hl hB]
        have := equalW g g hgl
        rw [(listEq_iff eqI_iff).2 rfl] at this
        exact this
      refine awp_reg_tov [6] [(6, bD true)] (h := ?_) (k := ?_)
      · rcases Bool.eq_false_or_eq_true (decide ((l.length : Int) > 0)) with hz | hz

        · ((repeat' (first | ((refine al_r rfl fun K' hK' => ?_); (repeat (simp only [go_sem, simprocAttr, hz, bne_self_eq_false, List.length_map])); ((first | refine hK' _ _ ?_ | refine ⟨?_, hK' _ _ ?_⟩) <;> clear hK' K' <;> (first | (show alist _ _ _ _ _ _; skip) | (intro s hs; cases hs; done)))) | refine al_e rfl rfl ?_)); all_goals (refine al_nil ?_; (simp only [go_sem, simprocAttr, hz, bne_self_eq_false, List.length_map, *, Bool.and_true, Bool.and_false, Bool.true_and, Bool.false_and, Bool.or_true, Bool.true_or, Bool.or_false, Bool.false_or, Bool.not_true, Bool.not_false, Bool.false_eq_true]; done)))
        · have hl0 : l = [] := by
            cases l with
            | nil => rfl
            | cons a l => simp at hz
          have heq3 := heq2 hl0

          ((repeat' ((first | refine al_r rfl fun K' hK' => ?_ | refine al_t rfl rfl fun K' hK' => ?_); (repeat (simp only [go_sem, simprocAttr, hz, bne_self_eq_false, List.length_map])); (first | ((first | refine hK' _ _ ?_ | refine ⟨?_, hK' _ _ ?_⟩) <;> clear hK' K' <;> (first | (show alist _ _ _ _ _ _; skip) | (intro s hs; cases hs; done))) | ((show AC _ _ (D.fn 18 _) _ _); refine acall_p (f := 18) (e := rfl) (hr := rfl) (k := hK' _ _ ?_) (hc := Try.call18) (h := heq3); clear hK' K')))); all_goals (refine al_nil ?_; (simp only [go_sem, simprocAttr, hz, bne_self_eq_false, List.length_map, *, Bool.and_true, Bool.and_false, Bool.true_and, Bool.false_and, Bool.or_true, Bool.true_or, Bool.or_false, Bool.false_or, Bool.not_true, Bool.not_false, Bool.false_eq_true]; done)))

      (intro K hK; (simp only [go_sem, simprocAttr, bne_self_eq_false]); refine hK _ ?_; clear hK K)
      all_goals (refine awp_ret ?_; (refine hR _ _ (.inl rfl) rfl ?_); (simp only [go_sem, simprocAttr, bne_self_eq_false, *, Bool.and_true, Bool.and_false, Bool.true_and, Bool.false_and, Bool.or_true, Bool.true_or, Bool.or_false, Bool.false_or, Bool.not_true, Bool.not_false, Bool.false_eq_true]; done))
end Go.Proofs.Ytagphggcdmjlpaa.P

/- CarryAlike: the contract. -/
namespace Go.Proofs.Ytagphggcdmjlpaa.P
open Go.Ab Go.Proofs.Ytagphggcdmjlpaa.T

theorem over_prefix {g : List Int} {L : List Obj} {w x : Int} {S : CT} (hg4 : g.length ≤ 4000) (hgo : ∀ w, w ∈ g → WordOk w) (hL : Placed L) (h4 : (flat L).length ≤ 4000) (hw : wordK g 40 (g, flat L, []) w = ((x, 0), S)) : ∃ r, S.2.1 = flat L ++ r := by
  obtain ⟨a1, _⟩ := word_inv hg4 hgo 40 _ w x S (start_inv hL h4) hw
  obtain ⟨N, n1, n2, _⟩ := a1.ex
  exact ⟨flat N, by rw [n2, flat_append]⟩

/-- All that is reached was moved. -/
theorem shr_moved {g b : List Int} {mv : List (Int × Int)} {w0 : Int} (hs : ShrK g b mv w0) (a : Int) : ReachK g w0 a ↔ (lk mv a).isSome = true := by
  constructor
  · intro h
    obtain ⟨y, hy, _⟩ := reach_fwd hs h hs.kn
    rw [hy]; rfl
  · intro h
    obtain ⟨y, hy⟩ := Option.isSome_iff_exists.1 h
    exact hs.rch a y hy

theorem carryAlike (g t : List Int) (w : Int) (hgl : g.length ≤ maxLen) (htl : t.length ≤ maxLen) (hgo : ∀ w, w ∈ g → WordOk w) (hto : ∀ w, w ∈ t → WordOk w) : ACallP Try.prog 8 [words g, words t, wD w] (bD true) := by
  obtain ⟨hv, hrd⟩ := readAny hgl hgo w
  have hce := cellsAny g w hgl hgo
  obtain ⟨k, n, text, args, hxs⟩ := hv.form
  rcases overC g t w hgl htl hgo hto with ⟨e, he, hov⟩ | ⟨x, S, h1, h2, hw, hov⟩
  · rw [hxs] at hrd
    exact alikeBad g t w k n _ e text args (by simpa using he) hrd hce hov
  · obtain ⟨hg4, hgf, hgp⟩ := heap_flat hgl hgo h1
    obtain ⟨ht4, htf, htp⟩ := heap_flat htl hto h2
    rw [htf] at hw
    have hft : (flat (objsS t).1).length ≤ 4000 := by rw [← htf]; exact ht4
    obtain ⟨hs, hx, T, hT, hb, hT4, hTl⟩ := shr_of hg4 hgo htp hft hw
    obtain ⟨r, hr⟩ := over_prefix hg4 hgo htp hft hw
    rw [← htf] at hr
    have hrd2 := (readAny (g := S.2.1) (Nat.le_trans hs.b4 (by simp [maxLen])) (by rw [hb]; exact placed_ok hT) x).2
    rw [hx, read_shr hs 40 w hs.kn 400] at hrd2
    rw [← hx] at hrd2
    have hsv := sameVal2 41 _ hv
    rw [hxs] at hrd hrd2 hsv
    have hog := objects g hgl hgo
    rw [h1] at hog
    have hlo : (objsS g).1.length ≤ maxLen := by
      have := count_len (L := (objsS g).1)
      rw [← hgf] at this
      simp only [maxLen]; omega
    have hap := apartC g S.2.1 S.2.2 w _ hlo hs hog
    rw [hr] at hov hrd2
    refine alikeGood g t r S.1 w x k n _ text args (objsS g).1 (by rw [← hr]; exact hs.b4) hrd hce hov hap hrd2 hsv hgl fun l hl hln hbg => ?_
    have hleft := left_inv hg4 hgo hgp hgf 40 _ w x S (start_inv htp hft) (left_start hgf _) (fun a ha => by
      have := hbg a ha
      rw [List.any_eq_true] at this
      obtain ⟨o, ho, e⟩ := this
      exact ⟨o, ho, by simpa using e⟩) hw
    unfold LeftOk at hleft
    rw [hleft, left_same, ← hgf]
    intro o ho hsome
    have hr2 := (shr_moved hs o.at_).2 hsome
    cases hk : (o.kind == 5) with
    | false => rfl
    | true =>
      have hat := at_placed hgp ho
      rw [← hgf] at hat
      have : o.at_ ∈ l := (hl.2.1 _).2 ⟨hr2, by rw [hat]; simpa using hk⟩
      rw [hln] at this
      cases this
end Go.Proofs.Ytagphggcdmjlpaa.P

