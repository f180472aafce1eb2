/- Regions that draw the order of their operations: operations that only read data may be taken first. No program is named here. -/
import Derived.Test.YtlffgjppnbhahaaGreatAb18
import Derived.OrdersHeld
set_option linter.unusedSimpArgs false
set_option linter.unusedVariables false
set_option maxHeartbeats 1000000
namespace Go.Ab

/-- A world in which all of this data stands. -/
def SofH (H : HV) (w : World) : Prop := ∀ b c, H b = some c → ∃ c' e f, w.heap[b]? = some (.cells c' e f) ∧ ∀ (i : Nat) v, c[i]? = some v → c'[i]? = some v

theorem SofH.le {H H' : HV} {w : World} (h : SofH H' w) (hle : HLe H H') : SofH H w := fun b c hb => by
  obtain ⟨c1, h1, h2⟩ := hle b c hb
  obtain ⟨c', e, f, h3, h4⟩ := h b c1 h1
  exact ⟨c', e, f, h3, fun i v hi => h4 i v (h2 i v hi)⟩

section
variable {M : En} {H0 H H' : HV} {w0 w w' : World} {nt : Nat} {loc loc' : Nat → Loc} {st st' : St} {a a' : Act}

/-- The frame, begun anew. -/
def En.anew (M : En) (st : St) (loc : Nat → Loc) : En := ⟨fun b => ∃ (i : Nat) (o : Ob), st.ob[i]? = some o ∧ o.live = true ∧ (loc i).r = true ∧ (loc i).b = b, M.ob, M.loc⟩

theorem Rel.anew (r : Rel M H0 w0 nt H loc w st a) : Rel (M.anew st loc) H w nt H loc w st a :=
  ⟨r.sr, r.tm, r.sz, r.df, .refl _ _ _, fun i o ho hl hr => .inl ⟨i, o, ho, hl, hr, rfl⟩, r.n0, r.ent⟩

theorem Rel.back_anew (r : Rel M H0 w0 nt H loc w st a) (r' : Rel (M.anew st loc) H w nt H' loc' w' st' a') : Rel M H0 w0 nt H' loc' w' st' a' := by
  have hM : ∀ b, (M.anew st loc).M b → M.M b ∨ w0.heap.size ≤ b := by
    rintro b ⟨i, o, ho, hl, hr, rfl⟩
    exact r.own i o ho hl hr
  refine ⟨r'.sr, r'.tm, r'.sz, r'.df, r.gr.trans r'.gr hM, fun i o ho hl hr => ?_, r'.n0, r'.ent⟩
  rcases r'.own i o ho hl hr with h | h
  · exact hM _ h
  · exact .inr (Nat.le_trans r.gr.size h)

end

theorem wpAnyH_monoS {P : Program} {md : Region.Mode} {ops : Array Oper} {Q : Exit → Act → World → Prop} {S S' : World → Prop} (hS : ∀ w, S' w → S w) :
    ∀ (fuel : Nat) (listed : Array Bool) (a : Act) (w : World), wpAnyH P md ops Q S' fuel listed a w → wpAnyH P md ops Q S fuel listed a w
  | 0, _, _, _, h => h
  | fuel + 1, _, _, _, h => ⟨h.1, fun i hi => wpOp_mono (fun a' w' h' => ⟨hS _ h'.1, wpAnyH_monoS hS fuel _ a' w' h'.2⟩) (h.2 i hi)⟩

/-- Whatever order is drawn from here on, told of abstract states. -/
def AH (P : Program) (nt : Nat) (md : Region.Mode) (ops : Array Oper) (K : St → Prop) (fuel : Nat) (listed : Array Bool) (st : St) : Prop :=
  ∀ M H0 w0 w a, Is M H0 w0 nt st a w → ∀ Q : Exit → Act → World → Prop, (∀ c a a' w, Q (.panic c) a w → Q (.panic c) a' w) →
    (∀ st' a' w', K st' → Is M H0 w0 nt st' a' w' → Q .normal a' w') → wpAnyH P md ops Q (SofH H0) fuel listed a w

section
variable {P : Program} {nt : Nat} {md : Region.Mode} {ops : Array Oper} {K : St → Prop} {fuel : Nat} {listed : Array Bool} {st : St}

theorem ah_done (hr : Region.ready md ops listed = []) (k : K st) : AH P nt md ops K fuel listed st :=
  fun _ _ _ _ _ hi _ _ hn => wpAnyH_done hr (hn _ _ _ k hi) fuel

/-- What only reads data answers one value, whatever else comes up before. -/
def Qt (P : Program) (nt : Nat) (ops : Array Oper) (o : Oper) (st : St) (K : D → Prop) : Prop :=
  ∀ M H0 w0 H loc w a, Rel M H0 w0 nt H loc w st a → ∃ v d, K d ∧ V H loc st.ob v d ∧ YieldsIf P ops (SofH H) o v a

theorem ah_first {i : Nat} {o : Oper} (hi : ops[i]? = some o) (hs : Region.noSelect ops = true) (hf : Region.free md ops listed i = true) (hr : (Region.ready md ops listed).contains i = true)
    (hd : dstOk nt o.dst) (hq : Qt P nt ops o st fun d => AH P nt md ops K fuel (listed.setIfInBounds i true) (st.put o.dst d)) : AH P nt md ops K (fuel + 1) listed st := by
  rintro M H0 w0 w a ⟨H, loc, r⟩ Q hQ hn
  obtain ⟨v, d, hk, hv, hy⟩ := hq M H0 w0 H loc w a r
  refine wpAnyH_monoS (S' := SofH H) (fun w h => SofH.le h r.gr.more) _ _ _ _ ?_
  refine wpAnyH_take hi hs hf hr (fun c a w h => hQ c _ _ w h) hy (fun b c hb => r.sr.heap b c hb) ?_
  refine hk _ _ _ _ _ ⟨H, loc, r.anew.put hd hv⟩ Q hQ ?_
  rintro st' a' w' k ⟨H', loc', r'⟩
  exact hn st' a' w' k ⟨H', loc', r.back_anew r'⟩

theorem alist_one {o : Oper} {K1 : St → Prop} (h : alist (aop P) nt ops [o] st K1) {M : En} {H0 : HV} {w0 w : World} {a : Act} (hi : Is M H0 w0 nt st a w) {next : Act → World → Prop} {Q : Exit → Act → World → Prop}
    (hn : ∀ st' a' w', K1 st' → Is M H0 w0 nt st' a' w' → next a' w') :
    if Region.wanted o (yielded ops a.tmps) then o.wp P a w next Q ∨ (o.asks P a w ∧ LetsOut Q) else next (a.put o.dst undef) w := by
  have goOn : ∀ st', dstOk nt o.dst → ∀ v d H loc w', alist (aop P) nt ops [] (st'.put o.dst d) K1 → Rel M H0 w0 nt H loc w' st' a → V H loc st'.ob v d → next (a.put o.dst v) w' :=
    fun st' hd v d H loc w' hk r hv => hn _ _ _ hk ⟨H, loc, r.put hd hv⟩
  have run : dstOk nt o.dst → (aop P o st fun d st' => alist (aop P) nt ops [] (st'.put o.dst d) K1) → o.wp P a w next Q := fun hd ha =>
    aop_sound ha M H0 w0 w a hi _ _ fun d st' v w' H loc hk r hv => goOn st' hd v d H loc w' hk r hv
  have skip : dstOk nt o.dst → alist (aop P) nt ops [] (st.put o.dst (.p (.lit undef))) K1 → next (a.put o.dst undef) w := fun hd ha => by
    obtain ⟨H, loc, r⟩ := hi
    exact goOn st hd undef _ H loc w ha r (.p _ _ (.lit _))
  have hi2 := hi
  obtain ⟨H, loc, r⟩ := hi2
  unfold alist at h
  cases hg : o.guard with
  | none =>
    rw [hg] at h
    rw [if_pos (by simp [Region.wanted, hg])]
    exact .inl (run h.1 h.2)
  | some jw =>
    obtain ⟨j, want⟩ := jw
    rw [hg] at h
    dsimp only at h
    split at h
    · rename_i b hb
      have hy := yielded_of r hb
      dsimp only at hy
      simp only [Region.wanted, hg, hy]
      by_cases e : b = want
      · subst e; simp only [beq_self_eq_true, if_true]; exact .inl (run h.1 (h.2.1 rfl))
      · have e' : b = !want := by cases b <;> cases want <;> simp_all
        have : (some b == some want) = false := by subst e'; cases want <;> rfl
        rw [this]
        exact skip h.1 (h.2.2 e')
    · rename_i vs hb
      have hy := yielded_of r hb
      dsimp only at hy
      simp only [Region.wanted, hg, hy]
      exact skip h.1 h.2
    · exact h.elim

theorem ah_all {rs : List Nat} (hr : Region.ready md ops listed = rs) (hne : rs ≠ [])
    (h : ∀ i, i ∈ rs → ∃ o, ops[i]? = some o ∧ alist (aop P) nt ops [o] st fun st' => AH P nt md ops K fuel (listed.setIfInBounds i true) st') : AH P nt md ops K (fuel + 1) listed st := by
  rintro M H0 w0 w a hi Q hQ hn
  refine wpAnyH_all hr hne fun i him => ?_
  obtain ⟨o, ho, hal⟩ := h i him
  unfold Go.wpOp
  simp only [ho]
  refine alist_one hal hi ?_
  rintro st' a' w' hk hi'
  refine ⟨?_, hk M H0 w0 w' a' hi' Q hQ hn⟩
  obtain ⟨H', loc', r'⟩ := hi'
  exact SofH.le (H' := H') (fun b c hb => r'.sr.heap b c hb) r'.gr.more

theorem ah_one (i : Nat) {o : Oper} (ho : ops.toList[i]? = some o) (hr : Region.ready md ops listed = [i]) (h : alist (aop P) nt ops [o] st fun st' => AH P nt md ops K fuel (listed.setIfInBounds i true) st') : AH P nt md ops K (fuel + 1) listed st :=
  ah_all hr (by simp) fun j hj => by
    rw [List.mem_singleton] at hj; subst hj; exact ⟨o, by rw [← Array.getElem?_toList]; exact ho, h⟩

theorem ah_two (i j : Nat) {o o' : Oper} (ho : ops.toList[i]? = some o) (ho' : ops.toList[j]? = some o') (hr : Region.ready md ops listed = [i, j]) (h : alist (aop P) nt ops [o] st fun st' => AH P nt md ops K fuel (listed.setIfInBounds i true) st')
    (h' : alist (aop P) nt ops [o'] st fun st' => AH P nt md ops K fuel (listed.setIfInBounds j true) st') : AH P nt md ops K (fuel + 1) listed st :=
  ah_all hr (by simp) fun k hk => by
    simp only [List.mem_cons, List.not_mem_nil, or_false] at hk
    rcases hk with rfl | rfl
    · exact ⟨o, by rw [← Array.getElem?_toList]; exact ho, h⟩
    · exact ⟨o', by rw [← Array.getElem?_toList]; exact ho', h'⟩

end

/-- A region that draws its order, followed by something. -/
theorem awp_draw {P : Program} {nt : Nat} {Q : Exit → St → Prop} {st : St} {id : Nat} {l : List Oper} (hm : P.follows .mixedOrders = true) (ts : List Nat)
    (h : ∀ K : St → Prop, (∀ s, Q .normal s → K s) → AH P nt .any l.toArray (fun st' => K (st'.keep ts)) l.length (Array.replicate l.length false) st) : AWp P nt (.region id l.toArray true) Q st := by
  rintro M H0 w0 w a ⟨H, loc, r⟩
  refine wp_mono (Q := fun e a w => e = .normal ∧ ∃ st', Q .normal st' ∧ Is M H0 w0 nt st' a w) (wp_region_held hm (S := SofH H0) ?_) ?_
  · refine h (fun s => Q .normal s) (fun s h => h) M H0 w0 _ a ⟨H, loc, r.drew⟩ _ (fun c a a' w h => by cases h.1) ?_
    intro st' a' w' k i
    exact ⟨rfl, _, k, i.keep ts⟩
  · rintro e a' w' ⟨rfl, st', h1, h2⟩
    exact ⟨st', h1, h2⟩

theorem awp_draw_seq {P : Program} {nt : Nat} {Q : Exit → St → Prop} {st : St} {id : Nat} {l : List Oper} {y : Code} (hm : P.follows .mixedOrders = true) (ts : List Nat)
    (h : ∀ K : St → Prop, (∀ s, AWp P nt y Q s → K s) → AH P nt .any l.toArray (fun st' => K (st'.keep ts)) l.length (Array.replicate l.length false) st) : AWp P nt (.seq (.region id l.toArray true) y) Q st :=
  awp_seq (awp_draw hm ts h)

end Go.Ab
