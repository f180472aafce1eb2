/- The calculus over abstract states: what it means that code leads from an abstract state to others, for sequences, branches, blocks, loops and a function's body. No program is named here. -/
import Derived.Test.YtlffgjppnbhahaaGreatAb1
set_option linter.unusedSimpArgs false
set_option linter.unusedVariables false
set_option maxHeartbeats 1000000
namespace Go.Ab

/-- An abstract state: what is known of each temporary, and the objects of the call's own memory. -/
structure St where
  tm : Nat → D
  ob : List Ob
  n0 : Nat := 0

/-- Temporaries out of a list. -/
def ofL : List (Nat × D) → Nat → D
  | [], _ => .none
  | (k, d) :: l, t => if k = t then d else ofL l t

/-- An execution is as an abstract state says. M, H0, w0: what the call may write, what it may read, and the world in which it began. -/
structure Rel (M : En) (H0 : HV) (w0 : World) (nt : Nat) (H : HV) (loc : Nat → Loc) (w : World) (st : St) (a : Act) : Prop where
  sr : Sr H loc st.ob w
  tm : ∀ t, V H loc st.ob (a.tmps.getD t undef) (st.tm t)
  sz : a.tmps.size = nt
  df : a.defers = []
  gr : Grows M.M H0 H w0 w
  own : ∀ (i : Nat) o, st.ob[i]? = some o → o.live = true → (loc i).r = true → M.M (loc i).b ∨ w0.heap.size ≤ (loc i).b
  n0 : M.ob.length = st.n0
  ent : stays M.ob st.ob M.loc loc

/-- There is a concrete side to an abstract state. -/
def Is (M : En) (H0 : HV) (w0 : World) (nt : Nat) (st : St) (a : Act) (w : World) : Prop := ∃ H loc, Rel M H0 w0 nt H loc w st a

/-- Where code leads to, told of abstract states. -/
def AWp (P : Program) (nt : Nat) (c : Code) (Q : Exit → St → Prop) (st : St) : Prop :=
  ∀ M H0 w0 w a, Is M H0 w0 nt st a w → c.wp P (fun e a' w' => ∃ st', Q e st' ∧ Is M H0 w0 nt st' a' w') a w

/-- The same of a list of operations. -/
def AOps (P : Program) (nt : Nat) (ops : Array Oper) (l : List Oper) (K : St → Prop) (st : St) : Prop :=
  ∀ M H0 w0 w a, Is M H0 w0 nt st a w → wpList P ops (fun e a' w' => e = .normal ∧ ∃ st', K st' ∧ Is M H0 w0 nt st' a' w') l a w

theorem upon_mono {P : Program} {o : Oper} {a : Act} {next next' : Act → World → Prop} {Q Q' : Exit → Act → World → Prop} (hn : ∀ a w, next a w → next' a w) (hq : ∀ e a w, Q e a w → Q' e a w)
    {r : Result Next} (h : o.upon P a next Q r) : o.upon P a next' Q' r := by
  cases r with
  | ok n w' =>
    cases n <;> simp only [Oper.upon] at h ⊢ <;> first | exact h.elim | exact hn _ _ h | skip
    case enter f args =>
      refine h.mono fun e w' he => ?_
      cases e with
      | returned v => exact hn _ _ he
      | panicked c => exact hq _ _ _ he
      | outgrown => obtain ⟨a, w, hx⟩ := he; exact ⟨a, w, hq _ _ _ hx⟩
    case row r args => exact h.mono fun v w' he => hn _ _ he
  | halt x w' => cases x <;> simp only [Oper.upon] at h ⊢ <;> first | exact h.elim | exact hq _ _ _ h

theorem wpList_mono {P : Program} {ops : Array Oper} {Q Q' : Exit → Act → World → Prop} (hq : ∀ e a w, Q e a w → Q' e a w) : ∀ {l : List Oper} {a : Act} {w : World}, wpList P ops Q l a w → wpList P ops Q' l a w
  | [], a, w, h => hq _ _ _ h
  | o :: rest, a, w, h => by
    unfold wpList at h ⊢
    split
    · rename_i hw
      rw [if_pos hw] at h
      rcases h with h | ⟨h, a', w', h2⟩
      · exact .inl (upon_mono (fun a w h => wpList_mono hq h) hq h)
      · exact .inr ⟨h, a', w', hq _ _ _ h2⟩
    · rename_i hw
      rw [if_neg hw] at h
      exact wpList_mono hq h

section
variable {P : Program} {nt : Nat} {Q : Exit → St → Prop} {st : St}

theorem AWp.mono {c : Code} {Q' : Exit → St → Prop} (h : AWp P nt c Q st) (hq : ∀ e s, Q e s → Q' e s) : AWp P nt c Q' st :=
  fun M H0 w0 w a hi => wp_mono (h M H0 w0 w a hi) fun _ _ _ ⟨s, q, i⟩ => ⟨s, hq _ _ q, i⟩

theorem awp_skip (h : Q .normal st) : AWp P nt .skip Q st := fun _ _ _ _ _ hi => wp_skip ⟨st, h, hi⟩
theorem awp_exit {id : Nat} (h : Q (.exit id) st) : AWp P nt (.exit id) Q st := fun _ _ _ _ _ hi => wp_exit ⟨st, h, hi⟩
theorem awp_ret (h : Q .ret st) : AWp P nt .ret Q st := fun _ _ _ _ _ hi => wp_ret ⟨st, h, hi⟩

/-- Behind the first of two. -/
def andThen (next : St → Prop) (Q : Exit → St → Prop) : Exit → St → Prop
  | .normal, s => next s
  | e, s => Q e s

theorem awp_seq {x y : Code} (h : AWp P nt x (andThen (AWp P nt y Q) Q) st) : AWp P nt (.seq x y) Q st := by
  intro M H0 w0 w a hi
  refine wp_seq (wp_mono (h M H0 w0 w a hi) ?_)
  rintro e a' w' ⟨s, q, i⟩
  cases e with
  | normal => exact q M H0 w0 w' a' i
  | _ => exact ⟨s, q, i⟩

/-- A block's exit. -/
def inBlock (id : Nat) (Q : Exit → St → Prop) : Exit → St → Prop
  | .exit id', s => if id' = id then Q .normal s else Q (.exit id') s
  | e, s => Q e s

theorem awp_block {id : Nat} {c : Code} (h : AWp P nt c (inBlock id Q) st) : AWp P nt (.block id c) Q st := by
  intro M H0 w0 w a hi
  refine wp_block (wp_mono (h M H0 w0 w a hi) ?_)
  rintro e a' w' ⟨s, q, i⟩
  cases e with
  | exit id' =>
    simp only [inBlock] at q
    simp only [Exit.inBlock]
    split <;> rename_i hid
    · rw [if_pos hid] at q; exact ⟨s, q, i⟩
    · rw [if_neg hid] at q; exact ⟨s, q, i⟩
  | _ => exact ⟨s, q, i⟩

theorem exists_least {p : Nat → Prop} : (∃ n, p n) → ∃ n, p n ∧ ∀ m, p m → n ≤ m := by
  rintro ⟨n, hn⟩
  induction n using Nat.strongRecOn with
  | _ n ih =>
    by_cases h : ∃ m, m < n ∧ p m
    · obtain ⟨m, hm, hp⟩ := h; exact ih m hm hp
    · exact ⟨n, hn, fun m hm => Nat.le_of_not_lt fun hlt => h ⟨m, hlt, hm⟩⟩

/-- A loop, by what holds at each round's head; the number falls with every round. -/
theorem awp_loop {c : Code} (I : Nat → St → Prop) (h0 : ∃ n, I n st)
    (round : ∀ n s, I n s → AWp P nt c (andThen (fun s' => ∃ m, m < n ∧ I m s') Q) s) : AWp P nt (.loop c) Q st := by
  classical
  intro M H0 w0 w a hi
  let J : Act → World → Nat → Prop := fun a w n => ∃ s, I n s ∧ Is M H0 w0 nt s a w
  let μ : Act → World → Nat := fun a w => if h : ∃ n, J a w n then Classical.choose (exists_least h) else 0
  have hμ : ∀ a w n, J a w n → J a w (μ a w) ∧ μ a w ≤ n := fun a w n hJ => by
    have hx : ∃ n, J a w n := ⟨n, hJ⟩
    have := Classical.choose_spec (exists_least hx)
    simp only [μ, dif_pos hx]
    exact ⟨this.1, this.2 n hJ⟩
  refine wp_loop (fun a w => ∃ n, J a w n) μ ?_ ?_
  · obtain ⟨n, hn⟩ := h0; exact ⟨n, st, hn, hi⟩
  · rintro a w ⟨n, hJ⟩
    obtain ⟨⟨s, hI, hs⟩, _⟩ := hμ a w n hJ
    refine wp_mono (round _ s hI M H0 w0 w a hs) ?_
    rintro e a' w' ⟨s', q, i'⟩
    cases e with
    | normal =>
      obtain ⟨m, hm, hI'⟩ := q
      have := hμ a' w' m ⟨s', hI', i'⟩
      exact ⟨⟨m, s', hI', i'⟩, Nat.lt_of_le_of_lt this.2 hm⟩
    | _ => exact ⟨s', q, i'⟩

/-- A branch, its test a known Bool. -/
theorem awp_cond {c : Operand} {x y : Code} (t : Nat) (hc : c = .tmp t) (b : Bool) (hb : st.tm t = .p (.lit (.bool b)))
    (h1 : b = true → AWp P nt x Q st) (h2 : b = false → AWp P nt y Q st) : AWp P nt (.cond c x y) Q st := by
  intro M H0 w0 w a hi
  subst hc
  obtain ⟨H, loc, r⟩ := hi
  have hv := r.tm t
  rw [hb] at hv
  have he : a.eval (.tmp t) = .bool b := by
    have : a.eval (.tmp t) = a.tmps.getD t undef := rfl
    rw [this]
    generalize a.tmps.getD t undef = v at hv
    cases hv with
    | p v x h => cases h; rfl
  refine wp_cond_split he (fun h => h1 h M H0 w0 w a ⟨H, loc, r⟩) (fun h => h2 h M H0 w0 w a ⟨H, loc, r⟩)

theorem awp_region {id : Nat} {l : List Oper} (h : AOps P nt l.toArray l (Q .normal) st) : AWp P nt (.region id l.toArray false) Q st := by
  intro M H0 w0 w a hi
  refine wp_region_lit ?_
  have := h M H0 w0 w a hi
  revert this
  generalize l.toArray = ops
  intro this
  exact wpList_mono (fun e a w ⟨he, s, q, i⟩ => ⟨s, by subst he; exact q, i⟩) this

end

/-- What code answers at its end: one value, or several as a tuple. -/
def resD (st : St) : List Nat → D
  | [t] => st.tm t
  | ts => .tup (ts.map st.tm)

/-- A call, told of abstract values and objects: with objects 'obs' of the caller's, handed over, and new ones behind them. -/
def ACalls (P : Program) (f : FuncId) (args : List D) (obs : List Ob) (Q : D → List Ob → Prop) : Prop :=
  ∀ (H : HV) (loc : Nat → Loc) (w : World) (vs : Array Value), Sr H loc obs w → vs.size = args.length →
    (∀ (i : Nat) v d, vs[i]? = some v → args[i]? = some d → V H loc obs v d) →
    Calls P f vs w fun e w' => ∃ v H' loc' r obs', Q r obs' ∧ e = .returned v ∧ V H' loc' obs' v r ∧ Sr H' loc' obs' w' ∧
      Grows (fun b => ∃ (i : Nat) (o : Ob), obs[i]? = some o ∧ o.live = true ∧ (loc i).r = true ∧ (loc i).b = b) H H' w w' ∧
      (∀ (i : Nat) o, obs'[i]? = some o → o.live = true → (loc' i).r = true → (∃ (k : Nat) (o' : Ob), obs[k]? = some o' ∧ o'.live = true ∧ (loc k).r = true ∧ (loc k).b = (loc' i).b) ∨ w.heap.size ≤ (loc' i).b) ∧
      stays obs obs' loc loc'

theorem ACalls.mono {P : Program} {f : FuncId} {args : List D} {obs : List Ob} {Q Q' : D → List Ob → Prop} (h : ACalls P f args obs Q) (hq : ∀ r o, Q r o → Q' r o) : ACalls P f args obs Q' :=
  fun H loc w vs h1 h2 h3 => (h H loc w vs h1 h2 h3).mono fun _ _ ⟨v, H', loc', r, obs', q, rest⟩ => ⟨v, H', loc', r, obs', hq _ _ q, rest⟩

/-- The temporaries at a function's begin. -/
def startTm (args : List D) (t : Nat) : D := args.getD t .none

/-- A call by the function's body. -/
theorem acalls_of {P : Program} {f : FuncId} {fn : Func} {c : Code} {args : List D} {obs : List Ob} {Q : D → List Ob → Prop} (ts : List Nat)
    (hf : P.funcs[f]? = some fn) (hb : fn.body = some c) (hr : fn.results = (ts.map ResultVar.tmp).toArray) (hn : args.length ≤ fn.ntmps)
    (h : AWp P fn.ntmps c (fun e st => (e = .normal ∨ e = .ret) ∧ Q (resD st ts) st.ob) ⟨startTm args, obs, obs.length⟩) (hub : ∀ o, o ∈ obs → o ≠ .unborn) : ACalls P f args obs Q := by
  intro H loc w vs hs hvs hv
  refine calls_of_wp hf hb ?_
  let M : Nat → Prop := fun b => ∃ (i : Nat) (o : Ob), obs[i]? = some o ∧ o.live = true ∧ (loc i).r = true ∧ (loc i).b = b
  have hi : Is ⟨M, obs, loc⟩ H w fn.ntmps ⟨startTm args, obs, obs.length⟩ { tmps := vs ++ Array.replicate (fn.ntmps - vs.size) undef, defers := [] } w := by
    refine ⟨H, loc, hs, fun t => ?_, ?_, rfl, Grows.refl _ _ _, fun i o ho hl hr => .inl ⟨i, o, ho, hl, hr, rfl⟩, rfl, fun k o ho => .inr ⟨o, ho, Ob.sameShape_refl o (hub o (List.mem_of_getElem? ho)), rfl⟩⟩
    · simp only [startTm]
      by_cases ht : t < args.length
      · have h1 : args[t]? = some args[t] := List.getElem?_eq_getElem ht
        have h2 : vs[t]? = some vs[t] := Array.getElem?_eq_getElem (by omega)
        have := hv t vs[t] args[t] h2 h1
        have e1 : (vs ++ Array.replicate (fn.ntmps - vs.size) undef).getD t undef = vs[t] := by
          rw [Array.getD_eq_getD_getElem?, Array.getElem?_append_left (by omega), h2]; rfl
        rw [e1, List.getD_eq_getElem?_getD, h1]; exact this
      · have h1 : args.getD t .none = .none := by rw [List.getD_eq_getElem?_getD, List.getElem?_eq_none (by omega)]; rfl
        rw [h1]; exact .none _
    · simp; omega
  refine wp_mono (h ⟨M, obs, loc⟩ H w w _ hi) ?_
  rintro e a' w' ⟨st', ⟨he, hq⟩, H', loc', r⟩
  have hm : ∀ (F : ResultVar → Sem Value), (∀ t, F (.tmp t) = pure (a'.tmps.getD t undef)) → ∀ (l : List Nat) (w : World), ((l.map ResultVar.tmp).mapM F).run P w = .ok (l.map fun t => a'.tmps.getD t undef) w := by
    intro F hF l
    induction l with
    | nil => intro w; rfl
    | cons t l ih => intro w; simp only [List.map_cons, List.mapM_cons, Sem.run_bind, hF, Sem.run_pure, Result.andThen_ok, ih]
  have hres : ∀ w', ∃ v, (results fn a'.tmps).run P w' = .ok v w' ∧ V H' loc' st'.ob v (resD st' ts) := by
    intro w'
    unfold results
    rw [hr, List.mapM_toArray]
    simp only [Sem.run_bind, Sem.run_map, Sem.run_pure]
    rw [hm _ (fun _ => rfl)]
    simp only [Result.andThen_ok]
    refine ⟨_, rfl, ?_⟩
    match ts with
    | [t] => exact r.tm t
    | [] => exact .tup #[] [] rfl (fun i v d h1 h2 => by simp at h2)
    | t :: t' :: ts =>
      rw [dif_neg (by simp)]
      refine .tup _ _ (by simp) fun i v d h1 h2 => ?_
      simp only [List.getElem?_toArray, List.getElem?_map] at h1 h2
      cases hx : (t :: t' :: ts)[i]? with
      | none => rw [hx] at h1; cases h1
      | some k =>
        rw [hx] at h1 h2
        cases h1; cases h2
        exact r.tm k
  obtain ⟨v, hv1, hv2⟩ := hres w'
  have post : bodyPost P fn (fun e w' => ∃ v H' loc' r obs', Q r obs' ∧ e = .returned v ∧ V H' loc' obs' v r ∧ Sr H' loc' obs' w' ∧ Grows M H H' w w' ∧
      (∀ (i : Nat) o, obs'[i]? = some o → o.live = true → (loc' i).r = true → (∃ (k : Nat) (o' : Ob), obs[k]? = some o' ∧ o'.live = true ∧ (loc k).r = true ∧ (loc k).b = (loc' i).b) ∨ w.heap.size ≤ (loc' i).b) ∧ stays obs obs' loc loc') .ret a' w' :=
    ⟨r.df, v, hv1, v, H', loc', _, _, hq, rfl, hv2, r.sr, r.gr, fun i o ho hl hr => (r.own i o ho hl hr).imp (fun ⟨k, o', a, b, c, d⟩ => ⟨k, o', a, b, c, d⟩) id, r.ent⟩
  rcases he with rfl | rfl
  · exact post
  · exact post

end Go.Ab
