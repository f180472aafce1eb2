/- What the executor says of a call is so. No program is named here. -/
import Derived.Test.YtlffgjppnbhahaaGreatX23
set_option linter.unusedSimpArgs false
set_option linter.unusedVariables false
set_option maxHeartbeats 1000000
namespace Go.Cx

section
variable {P : Program} {orb : BinOp → CV → CV → Option CV} {ρ : Nat → Int} {call : Callee} {nt : Nat} {ops : Array Oper} {D : Nat → DS} {s : St} {loc0 : Lc} {w0 : World}

theorem mem_ready {listed : Array Bool} {i : Nat} : i ∈ Region.ready .any ops listed ↔ ∃ o, ops.toList[i]? = some o ∧ listed.getD i true = false ∧ ∀ e, e ∈ o.after.toList → Region.binds .any e = true → listed.getD e.on false = true := by
  unfold Region.ready
  rw [List.mem_filter, List.mem_range]
  constructor
  · rintro ⟨h1, h2⟩
    have ho : ops[i]? = some ops[i] := Array.getElem?_eq_getElem h1
    rw [ho] at h2
    simp only [Option.map_some, Option.getD_some, Bool.and_eq_true, Bool.not_eq_true', Array.all_eq_true', Bool.or_eq_true] at h2
    refine ⟨ops[i], by rw [Array.getElem?_toList]; exact ho, h2.1, fun e he hb => ?_⟩
    rcases h2.2 e (by simpa using he) with h | h
    · rw [hb] at h; cases h
    · exact h
  · rintro ⟨o, h1, h2, h3⟩
    rw [Array.getElem?_toList] at h1
    refine ⟨(Array.getElem?_eq_some_iff.1 h1).1, ?_⟩
    rw [h1]
    simp only [Option.map_some, Option.getD_some, Bool.and_eq_true, Bool.not_eq_true', Array.all_eq_true', Bool.or_eq_true]
    refine ⟨h2, fun e he => ?_⟩
    cases hb : Region.binds .any e with
    | true => exact .inr (h3 e (by simpa using he) hb)
    | false => exact .inl rfl

theorem up_set {listed : Array Bool} {i : Nat} (hi : i < listed.size) (k : Nat) : Up (listed.setIfInBounds i true) k ↔ Up listed k ∨ k = i := by
  unfold Up
  simp only [Array.getD_eq_getD_getElem?, Array.getElem?_setIfInBounds]
  by_cases e : i = k
  · subst e; simp [hi]
  · rw [if_neg e]
    constructor
    · exact .inl
    · rintro (h | h)
      · exact h
      · exact (e h.symm).elim

theorem getD_up {listed : Array Bool} {i : Nat} (hi : i < listed.size) : listed.getD i true = false ↔ ¬ Up listed i := by
  unfold Up
  simp only [Array.getD_eq_getD_getElem?, Array.getElem?_eq_getElem hi, Option.getD_some]
  cases listed[i] <;> simp

/-- How many have not come up. -/
def waits (n : Nat) (listed : Array Bool) : Nat := ((List.range n).filter fun k => !listed.getD k false).length

theorem waits_set {n : Nat} {listed : Array Bool} {i : Nat} (hn : i < n) (hi : i < listed.size) (hu : ¬ Up listed i) : waits n (listed.setIfInBounds i true) < waits n listed := by
  unfold waits
  have e : (List.range n).filter (fun k => !(listed.setIfInBounds i true).getD k false) = ((List.range n).filter fun k => !listed.getD k false).filter fun k => !(k == i) := by
    rw [List.filter_filter]
    refine List.filter_congr fun k _ => ?_
    have := up_set hi k
    unfold Up at this
    rw [Bool.eq_iff_iff]
    simp only [Bool.not_eq_true', Bool.and_eq_true, beq_eq_false_iff_ne, ne_eq]
    constructor
    · intro h
      constructor
      · intro hk
        have := this.2 (.inr hk)
        rw [h] at this; cases this
      · cases hl : listed.getD k false with
        | false => rfl
        | true =>
          have := this.2 (.inl hl)
          rw [h] at this; cases this
    · rintro ⟨h1, h2⟩
      cases hl : (listed.setIfInBounds i true).getD k false with
      | false => rfl
      | true =>
        rcases this.1 hl with g | g
        · rw [h2] at g; cases g
        · exact (h1 g).elim
  rw [e]
  have hmem : i ∈ (List.range n).filter fun k => !listed.getD k false := by
    rw [List.mem_filter]
    refine ⟨List.mem_range.2 hn, ?_⟩
    unfold Up at hu
    simpa using hu
  generalize (List.range n).filter (fun k => !listed.getD k false) = l at hmem
  induction l with
  | nil => cases hmem
  | cons x l ih =>
    rw [List.filter_cons]
    by_cases hx : x = i
    · subst hx
      simp only [beq_self_eq_true, Bool.not_true, Bool.false_eq_true, if_false]
      have := List.length_filter_le (fun k => !(k == x)) l
      simp only [List.length_cons]
      omega
    · have hml : i ∈ l := by
        rcases List.mem_cons.1 hmem with h | h
        · exact (hx h.symm).elim
        · exact h
      have := ih hml
      rw [if_pos (by simpa using hx)]
      simp only [List.length_cons]
      omega

/-- Where it ends. -/
theorem Inv.post (T : Tra P orb call s.nx ops.toList D) (hD0 : (D 0).tm = s.tm) {X : Nat → Prop} {a : Act} {w : World} {p : Nat} {loc : Lc} {h : Nat → Option OB} (v : Inv ρ nt ops.toList D s loc0 w0 X a w p loc h) (hX : ∀ k, k < ops.toList.length → X k) :
    Post ρ nt loc0 s.hp.get s.nx w0 ⟨(D ops.toList.length).tm, slotAll s.nx (D ops.toList.length).pend (D ops.toList.length).hp, (D ops.toList.length).nx⟩ a w := by
  obtain ⟨q1, q2, q3⟩ := T.quiets v.le (Nat.le_refl _) fun e h1 h2 h3 => by
    have := (v.effs e h2 h3).1 (hX e h2)
    omega
  refine ⟨loc, fun t u hu => ?_, ?_, ?_, v.act⟩
  · by_cases hk : ∃ k, k < ops.toList.length ∧ dstAt ops.toList k = some t
    · obtain ⟨k, k1, k2⟩ := hk
      exact v.new t u ⟨k, k1, hX k k1, k2⟩ hu
    · refine v.old t u (fun k k1 _ k2 => hk ⟨k, k1, k2⟩) ?_
      rw [← hD0, ← T.tm_keeps (Nat.zero_le _) (Nat.le_refl _) fun k _ k1 k2 => hk ⟨k, k1, k2⟩]
      exact hu
  · dsimp only
    rw [q3]
    refine v.step.less' fun j x hx => (v.heap j x).2 ?_
    rcases slotAll_get hx with ⟨b, g1, g2⟩ | g
    · obtain ⟨g3, g4, g5⟩ := (T.pend_iff (Nat.le_refl _) b x).1 g1
      exact .inl ⟨b, g2, g3, hX b g3, g4, by rw [← cm_of q1]; exact g5⟩
    · right; rw [← q2]; exact g
  · dsimp only
    rw [q3]; exact v.free

theorem any_ok (hO : OraOk ρ orb) (hC : CallOk P ρ call) (T : Tra P orb call s.nx ops.toList D) (hD0 : (D 0).tm = s.tm) (h0 : ∀ b, b < ops.toList.length → (D 0).hp.get (s.nx + b) = none) (hd : dstO nt ops.toList = true) {Q : Exit → Act → World → Prop}
    (hQ : ∀ a w, Post ρ nt loc0 s.hp.get s.nx w0 ⟨(D ops.toList.length).tm, slotAll s.nx (D ops.toList.length).pend (D ops.toList.length).hp, (D ops.toList.length).nx⟩ a w → Q .normal a w) : ∀ (fuel : Nat) (listed : Array Bool) (a : Act) (w : World), listed.size = ops.toList.length →
      waits ops.toList.length listed ≤ fuel → (∃ p loc h, Inv ρ nt ops.toList D s loc0 w0 (Up listed) a w p loc h) → wpAny P .any ops Q fuel listed a w := by
  -- nothing is ready: all have come up
  have done : ∀ {listed : Array Bool}, listed.size = ops.toList.length → Region.ready .any ops listed = [] → ∀ k, k < ops.toList.length → Up listed k := by
    intro listed hs hr k
    induction k using Nat.strongRecOn with
    | _ k ih =>
      intro hk
      cases hu : listed.getD k true with
      | true =>
        have := mt (getD_up (listed := listed) (i := k) (by omega)).2
        rw [hu] at this
        simpa using this
      | false =>
        exfalso
        have : k ∈ Region.ready .any ops listed := mem_ready.2 ⟨ops.toList[k], List.getElem?_eq_getElem hk, hu, fun e he hb => by
          have := backE_at T.back (List.getElem?_eq_getElem hk) e he hb
          exact ih e.on (by omega) (by omega)⟩
        rw [hr] at this
        cases this
  intro fuel
  induction fuel with
  | zero =>
    rintro listed a w hs hw ⟨p, loc, h, v⟩
    have hup : ∀ k, k < ops.toList.length → Up listed k := fun k hk => by
      by_cases hu : Up listed k
      · exact hu
      · have := waits_set hk (by omega) hu
        omega
    refine ⟨?_, hQ _ _ (v.post T hD0 hup)⟩
    rw [List.eq_nil_iff_forall_not_mem]
    intro i hi
    obtain ⟨o, h1, h2, _⟩ := mem_ready.1 hi
    have hil := (List.getElem?_eq_some_iff.1 h1).1
    exact (getD_up (by omega)).1 h2 (hup i hil)
  | succ fuel ih =>
    rintro listed a w hs hw ⟨p, loc, h, v⟩
    refine ⟨fun hr => hQ _ _ (v.post T hD0 (done hs hr)), fun i hi => ?_⟩
    obtain ⟨o, h1, h2, h3⟩ := mem_ready.1 hi
    have hil := (List.getElem?_eq_some_iff.1 h1).1
    have hnu := (getD_up (by omega)).1 h2
    have hdo : dstD nt o.dst = true := List.all_eq_true.1 hd o (List.mem_of_getElem? h1)
    have hm : ∀ b, (Mk ops.toList i).testBit b = true → Up listed b := fun b hb => by
      obtain ⟨e, e1, e2, e3⟩ := (T.mk_bit h1 b).1 hb
      have := backE_at T.back h1 e e1 e2
      rcases e3 with rfl | e3
      · exact h3 e e1 e2
      · exact v.closed e.on (by omega) (h3 e e1 e2) b e3
    refine wpOp_mono (K := fun a' w' => ∃ p' loc' h', Inv ρ nt ops.toList D s loc0 w0 (Up (listed.setIfInBounds i true)) a' w' p' loc' h') (fun a' w' hI => ?_) (v.op hO hC T hD0 h0 h1 hnu hdo hm (up_set (by omega)))
    have := waits_set hil (by omega) hnu
    exact ih _ a' w' (by simpa using hs) (by omega) hI

theorem draw_ok (hm : P.follows .mixedOrders = true) (hO : OraOk ρ orb) (hC : CallOk P ρ call) : DrawOk P ρ nt (execD P orb call) := by
  intro id ops s s' h hd loc a w hT hM hf ha
  obtain ⟨h1, h2⟩ := R.if_ok.1 h
  obtain ⟨dn, h3, h4⟩ := R.bind_ok.1 h2
  cases h4
  simp only [Bool.and_eq_true] at h1
  obtain ⟨⟨h5, h6⟩, h7⟩ := h1
  obtain ⟨D, e1, e2, e3⟩ := passD_tr h3
  rw [Nat.zero_add] at e2
  have T : Tra P orb call s.nx ops.toList D := ⟨by rw [e1], by rw [e1], h5, h6, fun i o hi => by
    have := e3 i o hi
    rw [Nat.zero_add] at this
    exact stepD_kd this⟩
  have hD0 : (D 0).tm = s.tm := by rw [e1]
  have h0 : ∀ b, b < ops.toList.length → (D 0).hp.get (s.nx + b) = none := fun b _ => by
    rw [e1]
    dsimp only
    cases e : s.hp.get (s.nx + b) with
    | none => rfl
    | some x =>
      obtain ⟨pl, hpl, _⟩ := hM.sat _ x e
      rw [hf _ (by omega)] at hpl; cases hpl
  refine wp_region_any hm (any_ok hO hC T hD0 h0 hd (Q := fun e a' w' => e = .normal ∧ Post ρ nt loc s.hp.get s.nx w ⟨dn.tm, slotAll s.nx dn.pend dn.hp, dn.nx⟩ a' w') (fun a' w' p => ⟨rfl, by rw [← e2]; exact p⟩) _ _ a _ (by simp) ?_ ?_)
  · unfold waits
    have := List.length_filter_le (fun k => !(Array.replicate ops.size false).getD k false) (List.range ops.toList.length)
    simpa using this
  · have hno : ∀ k, ¬ Up (Array.replicate ops.size false) k := fun k hu => by
      unfold Up at hu
      rw [Array.getD_eq_getD_getElem?, Array.getElem?_replicate] at hu
      split at hu <;> simp at hu
    have hcm0 : Cm ops.toList D 0 = 0 := by unfold Cm; rw [T.hist0]
    have hst : Step ρ loc s.hp.get s.nx w loc s.hp.get (D 0).nx w.drew := by
      rw [e1]
      exact (Step.drew hM).wide (Nat.le_add_right _ _)
    have hhp : (D 0).hp = s.hp := by rw [e1]
    refine ⟨0, loc, s.hp.get, fun k _ hk => (hno k hk).elim, Nat.zero_le _, fun e _ _ => ⟨fun hk => (hno e hk).elim, fun hk => by omega⟩, hst, fun id hid => ?_, ?_, fun b hb _ => hf _ (by omega), fun j o => ?_, fun t v ⟨k, _, hk, _⟩ => (hno k hk).elim, fun t v _ hv => hT t v hv, ha⟩
    · rw [e1] at hid
      exact hf id (by dsimp only at hid; omega)
    · rw [e1]; exact Nat.le_refl _
    · rw [hhp]
      constructor
      · exact .inr
      · rintro (⟨b, _, _, hk, _⟩ | g)
        · exact (hno b hk).elim
        · exact g

end

section
variable {P : Program} {orb : BinOp → CV → CV → Option CV} {ρ : Nat → Int}

/-- A summary does what it says. -/
def SumOk (P : Program) (ρ : Nat → Int) (sm : Sum) : Prop :=
  ∀ f args hp nx v hp' nx', sm f args hp nx = some (.ok (v, hp', nx')) → ∀ (loc : Lc) (w : World) (vs : Array Value), Mem ρ loc hp.get w → VL ρ loc args vs.toList → FreeAll loc nx →
    Calls P f vs w fun e w' => ∃ v' loc', e = .returned v' ∧ V ρ loc' v v' ∧ Step ρ loc hp.get nx w loc' hp'.get nx' w'

/-- All temporaries that are written are there. -/
def DstsOk (P : Program) : Prop := ∀ (f : FuncId) (fn : Func) (c : Code), P.funcs[f]? = some fn → fn.body = some c → dstC fn.ntmps c = true

theorem start_get : ∀ (args : List CV) (n : Nat) (t : Tr CV) (k : Nat), (startTm args n t).get k = if n ≤ k ∧ k < n + args.length then args[k - n]? else t.get k
  | [], n, t, k => by
    rw [if_neg (by simp <;> omega)]; rfl
  | v :: l, n, t, k => by
    unfold startTm
    rw [start_get l (n + 1) (t.set n v) k, Tr.get_set]
    by_cases h1 : n + 1 ≤ k ∧ k < n + 1 + l.length
    · rw [if_pos h1, if_pos (by simp; omega), show k - n = (k - (n + 1)) + 1 by omega, List.getElem?_cons_succ]
    · rw [if_neg h1]
      by_cases h2 : k = n
      · subst h2
        rw [if_pos rfl, if_pos (by simp)]
        simp
      · rw [if_neg h2, if_neg (by simp; omega)]

theorem res_ok {s : St} {loc : Lc} {w : World} {a : Act} (hT : TmOk ρ loc s.tm a) (hM : Mem ρ loc s.hp.get w) (F : ResultVar → Sem Value) (h1 : ∀ t, F (.tmp t) = pure (a.tmps.getD t undef)) (h2 : ∀ x t, F (.cell x t) = (do loadVar t (← asAddr (a.tmps.getD x undef)))) :
    ∀ {l : List ResultVar} {cs : List CV}, resL P s l = .ok cs → ∃ vs : List Value, (l.mapM F).run P w = .ok vs w ∧ VL ρ loc cs vs
  | [], cs, h => by cases h; exact ⟨[], rfl, .nil⟩
  | x :: l, cs, h => by
    obtain ⟨c, g1, h⟩ := R.bind_ok.1 h
    obtain ⟨cs', g2, h⟩ := R.bind_ok.1 h
    cases h
    obtain ⟨vs, k1, k2⟩ := res_ok hT hM F h1 h2 g2
    have one : ∃ v, (F x).run P w = .ok v w ∧ V ρ loc c v := by
      cases x with
      | tmp t => exact ⟨_, by rw [h1]; rfl, hT t c (R.of_ok.1 g1)⟩
      | cell x t =>
        obtain ⟨i, e1, g3⟩ := R.bind_ok.1 g1
        obtain ⟨u, e2, g4⟩ := R.bind_ok.1 g3
        have hu := hT x u (R.of_ok.1 e2)
        split at g4
        · obtain ⟨xs, e3, g5⟩ := R.bind_ok.1 g4
          simp only [V] at hu
          obtain ⟨p, hp, hu⟩ := hu
          obtain ⟨q, hq, hh⟩ := hM.cells e3
          rw [hp] at hq; cases hq
          obtain ⟨v', e4, e5⟩ := loadV_ok (P := P) (tiOf_ok e1) hh g5
          refine ⟨v', ?_, e5⟩
          rw [h2, hu]
          simp only [asAddr, pure_bind]
          exact e4
        · cases g4
    obtain ⟨v, m1, m2⟩ := one
    exact ⟨v :: vs, by simp only [List.mapM_cons, Sem.run_bind, m1, Result.andThen_ok, k1, Sem.run_pure], .cons m2 k2⟩

theorem callF_ok (hm : P.follows .mixedOrders = true) (hdst : DstsOk P) (hO : OraOk ρ orb) {sm : Sum} (hS : SumOk P ρ sm) {lp : Nat → Loops} (hL : ∀ n nt, LoopOk P ρ nt (lp n)) (fuel : Nat) : ∀ n, CallOk P ρ (callF P orb sm lp fuel n)
  | 0 => fun f args hp nx v hp' nx' h => by cases h
  | n + 1 => by
    have ih := callF_ok hm hdst hO hS hL fuel n
    intro f args hp nx v hp' nx' h loc w vs hM hv hf
    unfold callF at h
    split at h
    · rename_i r hr
      subst h
      exact hS f args hp nx v hp' nx' hr loc w vs hM hv hf
    · obtain ⟨fn, g1, h⟩ := R.bind_ok.1 h
      obtain ⟨c, g2, h⟩ := R.bind_ok.1 h
      obtain ⟨g3, h⟩ := R.if_ok.1 h
      obtain ⟨r, g4, h⟩ := R.bind_ok.1 h
      rw [R.mark_ok] at g4
      obtain ⟨e, s'⟩ := r
      have g1 := R.of_ok.1 g1
      have g2 := R.of_ok.1 g2
      have g3 : args.length ≤ fn.ntmps := Nat.le_of_ble_eq_true g3
      have hlen := hv.length
      have hsz : vs.size = args.length := by simpa using hlen.symm
      refine calls_of_wp g1 g2 ?_
      have hT : TmOk ρ loc (startTm args 0 .e) { tmps := vs ++ Array.replicate (fn.ntmps - vs.size) undef, defers := [] } := fun t u hu => by
        rw [start_get] at hu
        split at hu
        · rename_i ht
          obtain ⟨x, x1, x2⟩ := hv.get hu
          rw [Nat.sub_zero, Array.getElem?_toList] at x1
          rw [Array.getD_eq_getD_getElem?, Array.getElem?_append_left (by omega), x1]
          exact x2
        · cases hu
      have ha : ActOk fn.ntmps { tmps := vs ++ Array.replicate (fn.ntmps - vs.size) undef, defers := [] } := ⟨by simp; omega, rfl⟩
      refine wp_mono (code_ok hO ih (draw_ok hm hO ih) (hL n _) fuel c ⟨startTm args 0 .e, hp, nx⟩ e s' g4 (hdst f fn c g1 g2) loc _ w hT hM hf ha) ?_
      rintro e' a' w' ⟨rfl, loc', p1, p2, p3, p4⟩
      have fin : ∀ cs, resL P s' fn.results.toList = .ok cs → R.ok (tup1 cs, s'.hp, s'.nx) = R.ok (v, hp', nx') → a'.defers = [] ∧ ∃ v', (results fn a'.tmps).run P w' = .ok v' w' ∧ ∃ u loc', Ending.returned v' = .returned u ∧ V ρ loc' v u ∧ Step ρ loc hp.get nx w loc' hp'.get nx' w' := fun cs hc he => by
        cases he
        obtain ⟨us, k1, k2⟩ := res_ok (P := P) p1 p2.mem (fun | .tmp t => pure (a'.tmps.getD t undef) | .cell x t => do loadVar t (← asAddr (a'.tmps.getD x undef))) (fun _ => rfl) (fun _ _ => rfl) hc
        have hres : (results fn a'.tmps).run P w' = .ok (if h : us.toArray.size = 1 then us.toArray[0] else .tuple us.toArray) w' := by
          unfold results
          rw [show fn.results = fn.results.toList.toArray by simp, List.mapM_toArray]
          simp only [Sem.run_bind, Sem.run_map, Sem.run_pure]
          erw [k1]
          rfl
        refine ⟨p4.defers, _, hres, _, loc', rfl, ?_, p2⟩
        match cs, us, k2 with
        | [c], us, k2 =>
          simp only [VL] at k2
          obtain ⟨u, _, rfl, k3, rfl⟩ := k2
          exact k3
        | [], us, k2 =>
          simp only [VL] at k2
          subst k2
          simp [tup1, V, VL]
        | c :: c' :: cs, us, k2 =>
          have hl := k2.length
          rw [dif_neg (by simp; simp at hl; omega)]
          simp only [tup1, V]
          exact ⟨_, rfl, by simpa using k2⟩
      cases e' with
      | normal =>
        obtain ⟨cs, k1, k2⟩ := R.bind_ok.1 h
        exact fin cs k1 k2
      | ret =>
        obtain ⟨cs, k1, k2⟩ := R.bind_ok.1 h
        exact fin cs k1 k2
      | _ => cases h

end

end Go.Cx
