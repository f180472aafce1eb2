/- Operations that only read data: they may be taken first in a region that draws its order. No program is named here. -/
import Derived.Test.YtlffgjppnbhahaaGreatAb19
set_option linter.unusedSimpArgs false
set_option linter.unusedVariables false
set_option maxHeartbeats 1000000
namespace Go.Ab

/-- An operation that only reads data. -/
def qop (P : Program) (o : Oper) (st : St) (K : D → Prop) : Prop :=
  match o.op with
  | .move x => K (st.ev x)
  | .assign x => K (st.ev x)
  | .pick c x y => match st.ev c with | .p (.lit (.bool t)) => (t = true → K (st.ev x)) ∧ (t = false → K (st.ev y)) | _ => False
  | .extract x i => match st.ev x with | .tup ds => (match ds[i]? with | some d => K d | none => False) | _ => False
  | .binOp op t x y _ => ∃ v0, abinAll P op t (st.ev x) (st.ev y) (fun d => d = .p (.lit v0)) ∧ K (.p (.lit v0))
  | .unOp op _ x => ∃ v0, aunAll op (st.ev x) (fun d => d = .p (.lit v0)) ∧ K (.p (.lit v0))
  | .fieldAddr s x f => match fdO P s f with | some off => (match fieldD off (st.ev x) with | some r => ptrLive st.ob (st.ev x) ∧ K r | none => False) | none => False
  | .indexAddr t x ix =>
    match st.ev ix with
    | .p (.lit (.int _ i)) =>
      (match arO P t with
      | some (n, m) => 0 ≤ i ∧ i < (n : Int) ∧ ptrLive st.ob (st.ev x) ∧ (match fieldD (i.toNat * m) (st.ev x) with | some r => K r | none => False)
      | none => match elO P t with | some (s, _) => indexD st.ob s i K (st.ev x) | none => False)
    | _ => False
  | .load t x =>
    match tyO P t, st.ev x with
    | some (g, n), .rd y j => (match loadD g n ((y.drop j).map .p) with | some r => K r | none => False)
    | _, _ => False
  | .call c =>
    match c.callee, c.argTypes.toList, c.args.toList.map st.ev with
    | .builtin .len, [t], [x] =>
      (match P.underlying t, lenD st.ob x with
      | some (.slice _), some n => (∀ s, x ≠ .p (.lit (.string s))) ∧ K (iD n)
      | some .string, some n => (∃ s, x = .p (.lit (.string s))) ∧ K (iD n)
      | _, _ => False)
    | _, _, _ => False
  | .convert src dst x =>
    match P.underlying src, P.underlying dst, st.ev x with
    | some (.int _), some (.int k), .p (.lit (.int _ n)) => K (.p (.lit (.int k (k.wrap n))))
    | _, _, _ => False
  | _ => False

section
variable {P : Program} {nt : Nat} {ops : Array Oper} {o : Oper} {st : St} {K : D → Prop}

/-- A load of data. -/
theorem load_rd {H : HV} {loc : Nat → Loc} {obs : List Ob} {v : Value} {x : List PV} {j : Nat} (hv : V H loc obs v (.rd x j)) {t : TypeId} {g : Bool} {n : Nat} (ht : tyO P t = some (g, n)) {r : D}
    (hl : loadD g n ((x.drop j).map .p) = some r) : ∃ u, (∀ w, SofH H w → (Instr.loadAt t v).run P w = .ok u w) ∧ V H loc obs u r := by
  cases hv with
  | rd b o c _ _ gv hb hc h1 hr =>
    have cell : ∀ w, SofH H w → ∀ (k : Nat) y, x[j + k]? = some y → w.cell? ⟨b, o + j + k, none⟩ = some (gv (j + k)) := fun w hs k y hy => by
      obtain ⟨c', e, f, h2, h3⟩ := hs b c hb
      have := h3 _ _ (hc _ _ hy)
      simp only [World.cell?, h2]
      rw [show o + j + k = o + (j + k) by omega]; exact this
    unfold loadD at hl
    cases g with
    | true =>
      simp only [if_true] at hl
      split at hl
      · rename_i hn
        cases hl
        simp only [List.length_map, List.length_drop] at hn
        have hget : ∀ k, k < n → ∃ y, x[j + k]? = some y := fun k hk => ⟨_, List.getElem?_eq_getElem (by omega)⟩
        refine ⟨.agg ((List.range n).map fun k => gv (j + k)).toArray, fun w hs => ?_, ?_⟩
        · have ha := (run_isAgg_of ht w).1
          have hz := (run_isAgg_of ht w).2
          have hrun : (loadCells ⟨b, o + j, none⟩ n).run P w = .ok ((List.range n).map fun k => gv (j + k)).toArray w :=
            run_loadCells w _ n _ (fun k hk => by rw [Addr.add_lit]; obtain ⟨y, hy⟩ := hget k hk; exact cell w hs k y hy)
          simp only [Instr.loadAt, Instr.sureAddr, loadVar, pure_bind, Sem.run_bind, ha, hz, Result.andThen_ok, if_true, hrun, Sem.run_pure]
        · refine .agg _ _ (by simp; omega) fun k u y hu hy => ?_
          have hk : k < n := by
            rcases Nat.lt_or_ge k n with h | h
            · exact h
            · simp [List.getElem?_take, Nat.not_lt.2 h] at hy
          rw [List.getElem?_take, if_pos hk, List.getElem?_map, List.getElem?_drop] at hy
          simp [hk] at hu
          subst hu
          obtain ⟨y2, hy2⟩ := hget k hk
          rw [hy2] at hy; cases hy
          exact .p _ _ (hr _ _ hy2)
      · cases hl
    | false =>
      simp only [Bool.false_eq_true, if_false, List.getElem?_map, List.getElem?_drop] at hl
      cases hy : x[j + 0]? with
      | none => rw [hy] at hl; cases hl
      | some y =>
        rw [hy] at hl; cases hl
        refine ⟨gv (j + 0), fun w hs => ?_, .p _ _ (hr _ _ hy)⟩
        have ha := (run_isAgg_of ht w).1
        have := cell w hs 0 y hy
        simp only [Instr.loadAt, Instr.sureAddr, loadVar, pure_bind, Sem.run_bind, ha, Result.andThen_ok, Bool.false_eq_true, if_false, run_load]
        rw [show o + j + 0 = o + j from rfl] at this
        rw [this]

theorem qop_run (h : qop P o st K) {M : En} {H0 H : HV} {w0 w : World} {loc : Nat → Loc} {a : Act} (r : Rel M H0 w0 nt H loc w st a) :
    ∃ v d, K d ∧ V H loc st.ob v d ∧ ∀ w', SofH H w' → (execOp a.eval o).run P w' = .ok (.value v) w' := by
  unfold qop at h
  split at h
  · rename_i x ho
    exact ⟨_, _, h, r.ev x, fun w' _ => by simp only [execOp, ho, Sem.run_pure]⟩
  · rename_i x ho
    exact ⟨_, _, h, r.ev x, fun w' _ => by simp only [execOp, ho, Sem.run_pure]⟩
  · rename_i c x y ho
    split at h
    · rename_i t ht
      have hc := r.ev c
      rw [ht] at hc
      cases t with
      | true => exact ⟨_, _, h.1 rfl, r.ev x, fun w' _ => by simp only [execOp, ho, hc.lit_inv, asBool, pure_bind, if_true, Sem.run_pure]⟩
      | false => exact ⟨_, _, h.2 rfl, r.ev y, fun w' _ => by simp only [execOp, ho, hc.lit_inv, asBool, pure_bind, Bool.false_eq_true, if_false, Sem.run_pure]⟩
    · exact h.elim
  · rename_i x i ho
    split at h
    · rename_i ds hx
      split at h
      · rename_i d hd
        have hv := r.ev x
        rw [hx] at hv
        generalize hvx : a.eval x = vx at hv
        cases hv with
        | tup vs _ hn hc =>
          have hlt : i < vs.size := by
            rcases Nat.lt_or_ge i ds.length with h' | h'
            · omega
            · simp [List.getElem?_eq_none h'] at hd
          refine ⟨vs[i], d, h, hc i _ d (Array.getElem?_eq_getElem hlt) hd, fun w' _ => ?_⟩
          simp only [execOp, ho, hvx, Instr.extract, Array.getElem?_eq_getElem hlt, Sem.run_bind, Sem.run_pure, Result.andThen_ok]
      · exact h.elim
    · exact h.elim
  · rename_i op t x y yt ho
    obtain ⟨v0, h, hk⟩ := h
    refine ⟨v0, _, hk, .p _ _ (.lit _), fun w' _ => ?_⟩
    obtain ⟨v, d, h1, h2, h3⟩ := abinAll_sound h (r.ev x) (r.ev y) w'
    have hp := abinAll_guard h (r.ev x) (r.ev y) w' x y
    subst h2
    have := h3.lit_inv; subst this
    simp only [execOp, ho, Sem.run_bind, hp, h1, Result.andThen_ok, Sem.run_pure]
  · rename_i op t x ho
    obtain ⟨v0, h, hk⟩ := h
    refine ⟨v0, _, hk, .p _ _ (.lit _), fun w' _ => ?_⟩
    obtain ⟨v, d, h1, h2, h3⟩ := aunAll_sound (P := P) h (r.ev x) w'
    subst h2
    have := h3.lit_inv; subst this
    simp only [execOp, ho, Sem.run_bind, h1, Result.andThen_ok, Sem.run_pure]
  · rename_i s x f ho
    split at h
    · rename_i off hf
      split at h
      · rename_i d hd
        obtain ⟨u, h1, h2⟩ := field_of hf (r.ev x) hd (live_of h.1)
        exact ⟨u, d, h.2, h2, fun w' _ => by simp only [execOp, ho, Sem.run_bind, h1 w', Result.andThen_ok, Sem.run_pure]⟩
      · exact h.elim
    · exact h.elim
  · rename_i t x ix ho
    split at h
    · rename_i k i hix
      split at h
      · rename_i n m ht
        obtain ⟨h0, h1, hl, h⟩ := h
        split at h
        · rename_i d hd
          have hi := r.ev ix
          rw [hix] at hi
          obtain ⟨u, h2, h3⟩ := index_array_of (k := k) ht (r.ev x) h0 h1 hd (live_of hl)
          exact ⟨u, d, h, h3, fun w' _ => by simp only [execOp, ho, hi.lit_inv, Sem.run_bind, h2 w', Result.andThen_ok, Sem.run_pure]⟩
        · exact h.elim
      · split at h
        · rename_i s m ht
          have hi := r.ev ix
          rw [hix] at hi
          obtain ⟨u, d, h2, h3, h4⟩ := index_of (k := k) ht (r.ev x) h
          exact ⟨u, d, h4, h3, fun w' _ => by simp only [execOp, ho, hi.lit_inv, Sem.run_bind, h2 w', Result.andThen_ok, Sem.run_pure]⟩
        · exact h.elim
    · exact h.elim
  · rename_i t x ho
    split at h
    · rename_i g n y j ht hx
      split at h
      · rename_i d hd
        have hv := r.ev x
        rw [hx] at hv
        obtain ⟨u, h1, h2⟩ := load_rd hv ht hd
        exact ⟨u, d, h, h2, fun w' hs => by simp only [execOp, ho, Sem.run_bind, h1 w' hs, Result.andThen_ok, Sem.run_pure]⟩
      · exact h.elim
    · exact h.elim
  · rename_i c ho
    obtain ⟨callee, args, ts⟩ := c
    split at h
    · rename_i t x hc hts hargs
      dsimp only at hc hts hargs
      subst hc
      obtain ⟨y, hy⟩ : ∃ y, args = #[y] := by
        have : args.toList.length = 1 := by have := congrArg List.length hargs; simpa using this
        match h2 : args.toList, this with
        | [y], _ => exact ⟨y, by apply Array.ext'; rw [h2]⟩
      subst hy
      obtain rfl : ts = #[t] := by apply Array.ext'; rw [hts]
      simp at hargs
      subst hargs
      have go : ∀ n : Nat, lenD st.ob (st.ev y) = some n → ((∃ e, P.underlying t = some (.slice e)) ∨ P.underlying t = some .string) → ((∃ e, P.underlying t = some (.slice e)) ↔ (∀ s, st.ev y ≠ .p (.lit (.string s)))) → K (iD n) →
          ∃ v d, K d ∧ V H loc st.ob v d ∧ ∀ w', SofH H w' → (execOp a.eval o).run P w' = .ok (.value v) w' := by
        intro n hn h1 h2 hK
        refine ⟨.int .i64 n, _, hK, .p _ _ (.lit _), fun w' _ => ?_⟩
        have := len_of (w := w') (ty := o.type) h1 (r.ev y) hn h2
        obtain ⟨cs, hcs⟩ := exec_builtin1 (P := P) (a := a) (w := w') ho
        rw [hcs]
        simp only [builtin, List.map_toArray, List.map_cons, List.map_nil, Sem.run_bind, this, Result.andThen_ok, Sem.run_pure]
      split at h
      · rename_i e n hu hn
        exact go n hn (.inl ⟨e, hu⟩) ⟨fun _ => h.1, fun _ => ⟨e, hu⟩⟩ h.2
      · rename_i n hu hn
        refine go n hn (.inr hu) ⟨fun ⟨e, he⟩ => (by rw [hu] at he; cases he), fun hx => ?_⟩ h.2
        obtain ⟨s, hs⟩ := h.1
        exact absurd hs (hx s)
      · exact h.elim
    · exact h.elim
  · rename_i src dst x ho
    split at h
    · rename_i k0 k k1 n hs hd hx
      have hv := r.ev x
      rw [hx] at hv
      exact ⟨.int k (k.wrap n), _, h, .p _ _ (.lit _), fun w' _ => by simp only [execOp, ho, hv.lit_inv, convert, Sem.run_bind, run_underlying hs, run_underlying hd, Result.andThen_ok, Conv.intToInt, Sem.run_pure]⟩
    · exact h.elim
  · exact h.elim

end

section
variable {P : Program} {nt : Nat} {md : Region.Mode} {ops : Array Oper} {o : Oper} {K : St → Prop} {fuel : Nat} {listed : Array Bool} {l : List (Nat × D)} {ob : List Ob} {n0 : Nat}

/-- Number i, without a guard, is taken first. -/
theorem ah_run (i : Nat) {t : Nat} (hi : ops.toList[i]? = some o) (hs : Region.noSelect ops = true) (hf : Region.free md ops listed i = true) (hr : (Region.ready md ops listed).contains i = true)
    (hg : o.guard = none) (hd : o.dst = some t) (ht : t < nt)
    (h : ∀ K' : D → Prop, (∀ d, AH P nt md ops K fuel (listed.setIfInBounds i true) ⟨ofL ((t, d) :: l), ob, n0⟩ → K' d) → qop P o ⟨ofL l, ob, n0⟩ K') : AH P nt md ops K (fuel + 1) listed ⟨ofL l, ob, n0⟩ := by
  refine ah_first (by rw [← Array.getElem?_toList]; exact hi) hs hf hr (by rw [hd]; exact ht) fun M H0 w0 H loc w a r => ?_
  obtain ⟨v, d, hk, hv, hx⟩ := qop_run (h _ fun d hx => hx) r
  refine ⟨v, d, ?_, hv, .inl ⟨by simp [Region.wanted, hg], hx⟩⟩
  rw [hd]; exact hk

theorem ah_then (i : Nat) {t j : Nat} {want : Bool} (hi : ops.toList[i]? = some o) (hs : Region.noSelect ops = true) (hf : Region.free md ops listed i = true) (hr : (Region.ready md ops listed).contains i = true)
    (hg : o.guard = some (j, want)) (hb : guardD ops ⟨ofL l, ob, n0⟩ j = bD want) (hd : o.dst = some t) (ht : t < nt)
    (h : ∀ K' : D → Prop, (∀ d, AH P nt md ops K fuel (listed.setIfInBounds i true) ⟨ofL ((t, d) :: l), ob, n0⟩ → K' d) → qop P o ⟨ofL l, ob, n0⟩ K') : AH P nt md ops K (fuel + 1) listed ⟨ofL l, ob, n0⟩ := by
  refine ah_first (by rw [← Array.getElem?_toList]; exact hi) hs hf hr (by rw [hd]; exact ht) fun M H0 w0 H loc w a r => ?_
  obtain ⟨v, d, hk, hv, hx⟩ := qop_run (h _ fun d hx => hx) r
  refine ⟨v, d, ?_, hv, .inl ⟨?_, hx⟩⟩
  · rw [hd]; exact hk
  · have := yielded_of r hb
    simp only [Region.wanted, hg, this, beq_self_eq_true]

theorem ah_else (i : Nat) {t j : Nat} {want : Bool} (hi : ops.toList[i]? = some o) (hs : Region.noSelect ops = true) (hf : Region.free md ops listed i = true) (hr : (Region.ready md ops listed).contains i = true)
    (hg : o.guard = some (j, want)) (hb : guardD ops ⟨ofL l, ob, n0⟩ j = bD (!want)) (hd : o.dst = some t) (ht : t < nt)
    (h : AH P nt md ops K fuel (listed.setIfInBounds i true) ⟨ofL ((t, .p (.lit undef)) :: l), ob, n0⟩) : AH P nt md ops K (fuel + 1) listed ⟨ofL l, ob, n0⟩ := by
  refine ah_first (by rw [← Array.getElem?_toList]; exact hi) hs hf hr (by rw [hd]; exact ht) fun M H0 w0 H loc w a r => ?_
  refine ⟨undef, .p (.lit undef), ?_, .p _ _ (.lit _), .inr ⟨?_, rfl⟩⟩
  · rw [hd]; exact h
  · have := yielded_of r hb
    simp only [Region.wanted, hg, this]
    cases want <;> rfl

theorem ah_undef (i : Nat) {t j : Nat} {want : Bool} (hi : ops.toList[i]? = some o) (hs : Region.noSelect ops = true) (hf : Region.free md ops listed i = true) (hr : (Region.ready md ops listed).contains i = true)
    (hg : o.guard = some (j, want)) (hb : guardD ops ⟨ofL l, ob, n0⟩ j = .p (.lit undef)) (hd : o.dst = some t) (ht : t < nt)
    (h : AH P nt md ops K fuel (listed.setIfInBounds i true) ⟨ofL ((t, .p (.lit undef)) :: l), ob, n0⟩) : AH P nt md ops K (fuel + 1) listed ⟨ofL l, ob, n0⟩ := by
  refine ah_first (by rw [← Array.getElem?_toList]; exact hi) hs hf hr (by rw [hd]; exact ht) fun M H0 w0 H loc w a r => ?_
  refine ⟨undef, .p (.lit undef), ?_, .p _ _ (.lit _), .inr ⟨?_, rfl⟩⟩
  · rw [hd]; exact h
  · have := yielded_of r hb
    simp only [Region.wanted, hg, this]
    rfl

theorem ah_split (g : Nat) (b : Bool) (hb : ofL l g = bD b)
    (h1 : b = true → AH P nt md ops K fuel listed ⟨ofL ((g, bD true) :: l), ob, n0⟩) (h2 : b = false → AH P nt md ops K fuel listed ⟨ofL ((g, bD false) :: l), ob, n0⟩) : AH P nt md ops K fuel listed ⟨ofL l, ob, n0⟩ := by
  have same : ∀ c : Bool, b = c → ofL ((g, bD c) :: l) = ofL l := fun c hc => by
    subst hc
    funext k
    simp only [ofL]
    split
    · rename_i e; rw [← e, hb]
    · rfl
  cases b with
  | true => have := h1 rfl; rw [same true rfl] at this; exact this
  | false => have := h2 rfl; rw [same false rfl] at this; exact this

/-- The same with what is asked of the order in one equation. -/
def mayD (md : Region.Mode) (ops : Array Oper) (listed : Array Bool) (i : Nat) : Bool := Region.noSelect ops && Region.free md ops listed i && (Region.ready md ops listed).contains i
theorem mayD_of {i : Nat} (h : mayD md ops listed i = true) : Region.noSelect ops = true ∧ Region.free md ops listed i = true ∧ (Region.ready md ops listed).contains i = true := by
  simpa only [mayD, Bool.and_eq_true, and_assoc] using h
theorem ah_r (i : Nat) {t : Nat} (hi : ops.toList[i]? = some o) (m : mayD md ops listed i = true) (c : gtD nt o = some t)
    (h : ∀ K' : D → Prop, (∀ d, AH P nt md ops K fuel (listed.setIfInBounds i true) ⟨ofL ((t, d) :: l), ob, n0⟩ → K' d) → qop P o ⟨ofL l, ob, n0⟩ K') : AH P nt md ops K (fuel + 1) listed ⟨ofL l, ob, n0⟩ :=
  ah_run i hi (mayD_of m).1 (mayD_of m).2.1 (mayD_of m).2.2 (gtD_of c).1 (gtD_of c).2.1 (gtD_of c).2.2 h
theorem ah_t (i : Nat) {t j : Nat} {want : Bool} (hi : ops.toList[i]? = some o) (m : mayD md ops listed i = true) (c : gtG nt o = some (t, j, want)) (hb : guardD ops ⟨ofL l, ob, n0⟩ j = bD want)
    (h : ∀ K' : D → Prop, (∀ d, AH P nt md ops K fuel (listed.setIfInBounds i true) ⟨ofL ((t, d) :: l), ob, n0⟩ → K' d) → qop P o ⟨ofL l, ob, n0⟩ K') : AH P nt md ops K (fuel + 1) listed ⟨ofL l, ob, n0⟩ :=
  ah_then i hi (mayD_of m).1 (mayD_of m).2.1 (mayD_of m).2.2 (gtG_of c).1 hb (gtG_of c).2.1 (gtG_of c).2.2 h
theorem ah_e (i : Nat) {t j : Nat} {want : Bool} (hi : ops.toList[i]? = some o) (m : mayD md ops listed i = true) (c : gtG nt o = some (t, j, want)) (hb : guardD ops ⟨ofL l, ob, n0⟩ j = bD (!want))
    (h : AH P nt md ops K fuel (listed.setIfInBounds i true) ⟨ofL ((t, .p (.lit undef)) :: l), ob, n0⟩) : AH P nt md ops K (fuel + 1) listed ⟨ofL l, ob, n0⟩ :=
  ah_else i hi (mayD_of m).1 (mayD_of m).2.1 (mayD_of m).2.2 (gtG_of c).1 hb (gtG_of c).2.1 (gtG_of c).2.2 h
theorem ah_u (i : Nat) {t j : Nat} {want : Bool} (hi : ops.toList[i]? = some o) (m : mayD md ops listed i = true) (c : gtG nt o = some (t, j, want)) (hb : guardD ops ⟨ofL l, ob, n0⟩ j = .p (.lit undef))
    (h : AH P nt md ops K fuel (listed.setIfInBounds i true) ⟨ofL ((t, .p (.lit undef)) :: l), ob, n0⟩) : AH P nt md ops K (fuel + 1) listed ⟨ofL l, ob, n0⟩ :=
  ah_undef i hi (mayD_of m).1 (mayD_of m).2.1 (mayD_of m).2.2 (gtG_of c).1 hb (gtG_of c).2.1 (gtG_of c).2.2 h

/-- Nothing is to be split where the guard is decided. -/
def litD : D → Bool
  | .p (.lit (.bool true)) => true
  | .p (.lit (.bool false)) => true
  | _ => true
theorem ah_l (g : Nat) (_c : litD (ofL l g) = true) (h : AH P nt md ops K fuel listed ⟨ofL l, ob, n0⟩) : AH P nt md ops K fuel listed ⟨ofL l, ob, n0⟩ := h

end

attribute [go_sem] qop D.p.injEq PV.lit.injEq exists_eq_left' exists_eq_left
end Go.Ab
