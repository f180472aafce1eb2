/- The calculus as it is used: a function's contract, its statements one by one, what simp unfolds. No program is named here. -/
import Derived.Test.YtlffgjppnbhahaaGreatAb16
set_option linter.unusedSimpArgs false
set_option linter.unusedVariables false
set_option maxHeartbeats 1000000
namespace Go.Ab

/-- A call by the function's body, what is asked at its end behind a name. -/
theorem acalls_body {P : Program} {f : FuncId} {fn : Func} {c : Code} {args : List D} {obs : List Ob} {Q : D → List Ob → Prop} (ts : List Nat) {n : Nat}
    (hf : P.funcs[f]? = some fn) (hb : fn.body = some c) (hr : fn.results = (ts.map ResultVar.tmp).toArray) (hnt : fn.ntmps = n) (hn : args.length ≤ n) (hub : ∀ o, o ∈ obs → o ≠ .unborn)
    (h : ∀ R : Exit → St → Prop, (∀ st, Q (resD st ts) st.ob → R .ret st) → (∀ st, Q (resD st ts) st.ob → R .normal st) → AWp P n c R ⟨startTm args, obs, obs.length⟩) : ACalls P f args obs Q := by
  subst hnt
  exact acalls_of ts hf hb hr hn (h _ (fun st q => ⟨.inr rfl, q⟩) (fun st q => ⟨.inl rfl, q⟩)) hub

section
variable {P : Program} {nt : Nat} {Q : Exit → St → Prop} {st : St}

theorem awp_seq_k {x y : Code} (h : ∀ K : St → Prop, (∀ s, AWp P nt y Q s → K s) → AWp P nt x (andThen K Q) st) : AWp P nt (.seq x y) Q st := awp_seq (h _ fun _ h => h)

/-- A region that is followed by something. -/
theorem awp_reg_seq {id : Nat} {l : List Oper} {y : Code} (ts : List Nat) (h : ∀ K : St → Prop, (∀ s, AWp P nt y Q s → K s) → alist (aop P) nt l.toArray l st fun st' => K (st'.keep ts)) : AWp P nt (.seq (.region id l.toArray false) y) Q st :=
  awp_seq (awp_reg ts (h _ fun _ h => h))

/-- A region at a statement's end. -/
theorem awp_reg_end {id : Nat} {l : List Oper} (ts : List Nat) (h : ∀ K : St → Prop, (∀ s, Q .normal s → K s) → alist (aop P) nt l.toArray l st fun st' => K (st'.keep ts)) : AWp P nt (.region id l.toArray false) Q st :=
  awp_reg ts (h _ fun _ h => h)

/-- A branch. -/
theorem awp_if {t : Nat} {x y : Code} (b : Bool) (hb : st.tm t = bD b) (h1 : b = true → AWp P nt x Q st) (h2 : b = false → AWp P nt y Q st) : AWp P nt (.cond (.tmp t) x y) Q st :=
  awp_cond t rfl b hb h1 h2

/-- The state may be said weaker: fewer temporaries, objects left out or numbered anew. -/
theorem awp_cut {c : Code} (ts ids : List Nat) (hd : ids.Nodup) (hp : ∀ k, k < st.n0 → ids[k]? = some k) (h : AWp P nt c Q (st.cut ts ids)) : AWp P nt c Q st :=
  fun M H0 w0 w a hi => h M H0 w0 w a (hi.cut ts hd hp)

end

/-- The temporaries at a function's begin, as a list. -/
def startL : Nat → List D → List (Nat × D)
  | _, [] => []
  | k, d :: l => (k, d) :: startL (k + 1) l

theorem startL_eq : ∀ (l : List D) (k t : Nat), ofL (startL k l) t = if k ≤ t then l.getD (t - k) .none else .none
  | [], k, t => by simp [startL, ofL]
  | d :: l, k, t => by
    simp only [startL, ofL, startL_eq l (k + 1) t]
    by_cases h : k = t
    · subst h; simp
    · by_cases h2 : k + 1 ≤ t
      · rw [if_neg h, if_pos h2, if_pos (by omega), show t - k = (t - (k + 1)) + 1 by omega]
        simp
      · rw [if_neg h, if_neg h2, if_neg (by omega)]

theorem startTm_eq (args : List D) : startTm args = ofL (startL 0 args) := by
  funext t
  rw [startL_eq]
  simp [startTm]

/-- A function's contract by its body, what is asked at its end behind a name. -/
theorem acalls_fn {P : Program} {f : FuncId} {fn : Func} {c : Code} {args : List D} {obs : List Ob} {Q : D → List Ob → Prop} (ts : List Nat) {n : Nat}
    (hf : P.funcs[f]? = some fn) (hb : fn.body = some c) (hr : fn.results = (ts.map ResultVar.tmp).toArray) (hnt : fn.ntmps = n) (hn : args.length ≤ n) (hub : ∀ o, o ∈ obs → o ≠ .unborn)
    (h : ∀ R : Exit → St → Prop, (∀ st, Q (resD st ts) st.ob → R .ret st) → (∀ st, Q (resD st ts) st.ob → R .normal st) → AWp P n c R ⟨ofL (startL 0 args), obs, obs.length⟩) : ACalls P f args obs Q :=
  acalls_body ts hf hb hr hnt hn hub fun R h1 h2 => by rw [startTm_eq]; exact h R h1 h2

section
variable {P : Program} {nt : Nat} {ops : Array Oper} {o : Oper} {rest : List Oper} {K : St → Prop} {l : List (Nat × D)} {ob : List Ob} {n0 : Nat}

theorem put_ofL (t : Nat) (d : D) : St.put ⟨ofL l, ob, n0⟩ (some t) d = ⟨ofL ((t, d) :: l), ob, n0⟩ := rfl

/-- An operation without a guard. -/
theorem al_run {t : Nat} (hg : o.guard = none) (hd : o.dst = some t) (ht : t < nt)
    (h : ∀ K' : D → St → Prop, (∀ d {l' : List (Nat × D)} ob', alist (aop P) nt ops rest ⟨ofL ((t, d) :: l'), ob', n0⟩ K → K' d ⟨ofL l', ob', n0⟩) → aop P o ⟨ofL l, ob, n0⟩ K') : alist (aop P) nt ops (o :: rest) ⟨ofL l, ob, n0⟩ K := by
  unfold alist
  rw [hg]
  dsimp only
  rw [hd]
  exact ⟨ht, h _ fun d _ ob' hx => hx⟩

/-- One without a result. -/
theorem al_do (hg : o.guard = none) (hd : o.dst = none)
    (h : ∀ K' : D → St → Prop, (∀ d {l' : List (Nat × D)} ob', alist (aop P) nt ops rest ⟨ofL l', ob', n0⟩ K → K' d ⟨ofL l', ob', n0⟩) → aop P o ⟨ofL l, ob, n0⟩ K') : alist (aop P) nt ops (o :: rest) ⟨ofL l, ob, n0⟩ K := by
  unfold alist
  rw [hg]
  dsimp only
  rw [hd]
  exact ⟨trivial, h _ fun d _ ob' hx => hx⟩

/-- A guarded one that is wanted. -/
theorem al_then {t j : Nat} {want : Bool} (hg : o.guard = some (j, want)) (hb : guardD ops ⟨ofL l, ob, n0⟩ j = bD want) (hd : o.dst = some t) (ht : t < nt)
    (h : ∀ K' : D → St → Prop, (∀ d {l' : List (Nat × D)} ob', alist (aop P) nt ops rest ⟨ofL ((t, d) :: l'), ob', n0⟩ K → K' d ⟨ofL l', ob', n0⟩) → aop P o ⟨ofL l, ob, n0⟩ K') : alist (aop P) nt ops (o :: rest) ⟨ofL l, ob, n0⟩ K := by
  unfold alist
  rw [hg]
  dsimp only
  rw [hb]
  dsimp only [bD]
  rw [hd]
  exact ⟨ht, fun _ => h _ fun d _ ob' hx => hx, fun e => by cases want <;> simp at e⟩

/-- A guarded one that is not. -/
theorem al_else {t j : Nat} {want : Bool} (hg : o.guard = some (j, want)) (hb : guardD ops ⟨ofL l, ob, n0⟩ j = bD (!want)) (hd : o.dst = some t) (ht : t < nt)
    (h : alist (aop P) nt ops rest ⟨ofL ((t, .p (.lit undef)) :: l), ob, n0⟩ K) : alist (aop P) nt ops (o :: rest) ⟨ofL l, ob, n0⟩ K := by
  unfold alist
  rw [hg]
  dsimp only
  rw [hb, hd]
  exact ⟨ht, fun e => by cases want <;> simp at e, fun _ => h⟩

theorem al_undef {t j : Nat} {want : Bool} (hg : o.guard = some (j, want)) (hb : guardD ops ⟨ofL l, ob, n0⟩ j = .p (.lit undef)) (hd : o.dst = some t) (ht : t < nt)
    (h : alist (aop P) nt ops rest ⟨ofL ((t, .p (.lit undef)) :: l), ob, n0⟩ K) : alist (aop P) nt ops (o :: rest) ⟨ofL l, ob, n0⟩ K := by
  unfold alist
  rw [hg]
  dsimp only
  rw [hb, hd]
  exact ⟨ht, h⟩

/-- A guard that is not decided yet. -/
theorem al_split {g j : Nat} {want : Bool} (b : Bool) (_hg : o.guard = some (j, want)) (_hgd : (ops[j]?).bind (·.dst) = some g) (hb : ofL l g = bD b)
    (h1 : b = true → alist (aop P) nt ops (o :: rest) ⟨ofL ((g, bD true) :: l), ob, n0⟩ K) (h2 : b = false → alist (aop P) nt ops (o :: rest) ⟨ofL ((g, bD false) :: l), ob, n0⟩ K) : alist (aop P) nt ops (o :: rest) ⟨ofL l, ob, n0⟩ K := by
  have same : ∀ c : Bool, b = c → ofL ((g, bD c) :: l) = ofL l := fun c hc => by
    subst hc
    funext k
    simp only [ofL]
    split
    · rename_i e; rw [← e, hb]
    · rfl
  cases b with
  | true => have := h1 rfl; rw [same true rfl] at this; exact this
  | false => have := h2 rfl; rw [same false rfl] at this; exact this

/-- What a step asks of its operation, in one equation each. -/
def gtD (nt : Nat) (o : Oper) : Option Nat := match o.guard, o.dst with
  | none, some t => bif Nat.blt t nt then some t else none
  | _, _ => none
def gtN (o : Oper) : Bool := match o.guard, o.dst with
  | none, none => true
  | _, _ => false
def gtG (nt : Nat) (o : Oper) : Option (Nat × Nat × Bool) := match o.guard, o.dst with
  | some (j, want), some t => bif Nat.blt t nt then some (t, j, want) else none
  | _, _ => none

theorem cond_some {α : Type} {b : Bool} {x y : α} (h : (bif b then some x else none) = some y) : b = true ∧ x = y := by
  cases b
  · cases h
  · cases h; exact ⟨rfl, rfl⟩
theorem lt_of_blt {a b : Nat} (h : Nat.blt a b = true) : a < b := by
  simpa [Nat.blt_eq] using h
theorem gtD_of {nt t : Nat} {o : Oper} (h : gtD nt o = some t) : o.guard = none ∧ o.dst = some t ∧ t < nt := by
  unfold gtD at h
  split at h
  · obtain ⟨hb, rfl⟩ := cond_some h
    exact ⟨by assumption, by assumption, lt_of_blt hb⟩
  · cases h
theorem gtN_of {o : Oper} (h : gtN o = true) : o.guard = none ∧ o.dst = none := by
  unfold gtN at h
  split at h
  · exact ⟨by assumption, by assumption⟩
  · cases h
theorem gtG_of {nt t j : Nat} {w : Bool} {o : Oper} (h : gtG nt o = some (t, j, w)) : o.guard = some (j, w) ∧ o.dst = some t ∧ t < nt := by
  unfold gtG at h
  split at h
  · obtain ⟨hb, e⟩ := cond_some h
    cases e
    exact ⟨by assumption, by assumption, lt_of_blt hb⟩
  · cases h

theorem al_r {t : Nat} (c : gtD nt o = some t)
    (h : ∀ K' : D → St → Prop, (∀ d {l' : List (Nat × D)} ob', alist (aop P) nt ops rest ⟨ofL ((t, d) :: l'), ob', n0⟩ K → K' d ⟨ofL l', ob', n0⟩) → aop P o ⟨ofL l, ob, n0⟩ K') : alist (aop P) nt ops (o :: rest) ⟨ofL l, ob, n0⟩ K :=
  al_run (gtD_of c).1 (gtD_of c).2.1 (gtD_of c).2.2 h
theorem al_d (c : gtN o = true)
    (h : ∀ K' : D → St → Prop, (∀ d {l' : List (Nat × D)} ob', alist (aop P) nt ops rest ⟨ofL l', ob', n0⟩ K → K' d ⟨ofL l', ob', n0⟩) → aop P o ⟨ofL l, ob, n0⟩ K') : alist (aop P) nt ops (o :: rest) ⟨ofL l, ob, n0⟩ K :=
  al_do (gtN_of c).1 (gtN_of c).2 h
theorem al_t {t j : Nat} {want : Bool} (c : gtG nt o = some (t, j, want)) (hb : guardD ops ⟨ofL l, ob, n0⟩ j = bD want)
    (h : ∀ K' : D → St → Prop, (∀ d {l' : List (Nat × D)} ob', alist (aop P) nt ops rest ⟨ofL ((t, d) :: l'), ob', n0⟩ K → K' d ⟨ofL l', ob', n0⟩) → aop P o ⟨ofL l, ob, n0⟩ K') : alist (aop P) nt ops (o :: rest) ⟨ofL l, ob, n0⟩ K :=
  al_then (gtG_of c).1 hb (gtG_of c).2.1 (gtG_of c).2.2 h
theorem al_e {t j : Nat} {want : Bool} (c : gtG nt o = some (t, j, want)) (hb : guardD ops ⟨ofL l, ob, n0⟩ j = bD (!want))
    (h : alist (aop P) nt ops rest ⟨ofL ((t, .p (.lit undef)) :: l), ob, n0⟩ K) : alist (aop P) nt ops (o :: rest) ⟨ofL l, ob, n0⟩ K :=
  al_else (gtG_of c).1 hb (gtG_of c).2.1 (gtG_of c).2.2 h
theorem al_u {t j : Nat} {want : Bool} (c : gtG nt o = some (t, j, want)) (hb : guardD ops ⟨ofL l, ob, n0⟩ j = .p (.lit undef))
    (h : alist (aop P) nt ops rest ⟨ofL ((t, .p (.lit undef)) :: l), ob, n0⟩ K) : alist (aop P) nt ops (o :: rest) ⟨ofL l, ob, n0⟩ K :=
  al_undef (gtG_of c).1 hb (gtG_of c).2.1 (gtG_of c).2.2 h
theorem al_s {g j : Nat} {want : Bool} (b : Bool) (hg : o.guard = some (j, want)) (hgd : (ops[j]?).bind (·.dst) = some g) (hb : ofL l g = bD b)
    (h1 : b = true → alist (aop P) nt ops (o :: rest) ⟨ofL ((g, bD true) :: l), ob, n0⟩ K) (h2 : b = false → alist (aop P) nt ops (o :: rest) ⟨ofL ((g, bD false) :: l), ob, n0⟩ K) : alist (aop P) nt ops (o :: rest) ⟨ofL l, ob, n0⟩ K :=
  al_split b hg hgd hb h1 h2

theorem al_nil (h : K ⟨ofL l, ob, n0⟩) : alist (aop P) nt ops [] ⟨ofL l, ob, n0⟩ K := h

end

/-- A store of what is given away for good. -/
theorem as_away {P : Program} {n : Nat} {l : List (Nat × D)} {ob : List Ob} {n0 : Nat} {x y : Operand} {K : St → Prop} (ids : List Nat) (hd : ids.Nodup) (hp : ∀ k, k < n0 → ids[k]? = some k)
    (h : storeD n ⟨ofL (l.map fun p => (p.1, D.map (give0 ids ob) p.2)), newObs ob ids, n0⟩ (St.ev ⟨ofL (l.map fun p => (p.1, D.map (give0 ids ob) p.2)), newObs ob ids, n0⟩ x) (St.ev ⟨ofL (l.map fun p => (p.1, D.map (give0 ids ob) p.2)), newObs ob ids, n0⟩ y) K) :
    AS P n ⟨ofL l, ob, n0⟩ x y K := by
  refine .away ids hd hp ?_
  have e : St.away ids ⟨ofL l, ob, n0⟩ = ⟨ofL (l.map fun p => (p.1, D.map (give0 ids ob) p.2)), newObs ob ids, n0⟩ := by
    unfold St.away
    rw [← ofL_map _ rfl l]
  rw [e]
  exact h

theorem ofL_nil (t : Nat) : ofL [] t = .none := rfl
theorem ofL_cons (k t : Nat) (d : D) (l : List (Nat × D)) : ofL ((k, d) :: l) t = if k = t then d else ofL l t := rfl

attribute [go_sem] ofL_nil ofL_cons startL aop abinAll appendZ eqAgg eqCells abin intBin aunAll abuiltin mostD clearD copyD lookupD updateD appendIn zpv mget mset dstOk St.ev startTm Ab.cellsD okAll okParts cellOk liveAt ptrLive Ob.live St.put St.keep St.cut andThen inBlock guardD fieldD indexD derefD loadD storeD putAt toPV toPVs rowsD rowsOf lenD fillD partD boundD
  appendD Ab.constD Ab.constC resD cellOk0 renOb newObs D.map D.mapL ren1 idx back give give0 giveRow setAll merge Value.oneCell'
attribute [go_sem] List.getD_cons_zero List.getD_cons_succ List.getD_nil List.map_cons List.map_nil List.getElem?_cons_zero List.getElem?_cons_succ List.getElem?_nil List.length_cons List.length_nil List.cons_append List.nil_append List.append_nil
  List.take_succ_cons List.take_zero List.take_nil List.drop_succ_cons List.drop_zero List.drop_nil List.set_cons_zero List.set_cons_succ List.set_nil Option.map_some Option.map_none Option.bind_some Option.bind_none List.getElem?_toArray
  true_and and_true if_true if_false Bool.false_eq_true List.all_cons List.all_nil Bool.and_true Bool.true_and forall_const Option.getD_some Option.getD_none List.map_append List.length_append List.length_map List.drop_length Nat.add_zero Nat.zero_add
  Bool.not_true Bool.not_false false_implies true_implies implies_true List.length_set decide_true decide_false
attribute [go_sem] bytesD bytes_map

end Go.Ab
