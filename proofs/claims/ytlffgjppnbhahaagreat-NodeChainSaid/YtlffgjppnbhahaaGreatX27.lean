/- The rule for loops that collect keys is right: one entry. No program is named here. -/
import Derived.Test.YtlffgjppnbhahaaGreatX26
set_option linter.unusedSimpArgs false
set_option linter.unusedVariables false
set_option maxHeartbeats 1000000
namespace Go.Cx
open Go.ChangeMaps (setBlock)

/-- A loop's begin, and what was found out of its body. -/
structure Ctx (P : Program) (call : Callee) (draw : List Oper → St → R St) (fuel to : Nat) (ρ : Nat → Int) (nt : Nat) (s : St) (loc : Lc) (w0 : World) (h : Hd) (itid m : Nat) (es : List ME) (clock : Nat) (pr : List Bool) (ks : List Int) : Prop where
  ok : h.Ok
  ne1 : h.ti ≠ h.d1
  ne2 : h.ti ≠ h.d2
  ne3 : h.ti ≠ h.d3
  ne4 : h.ti ≠ to
  ne5 : h.d1 ≠ to
  ne6 : h.d2 ≠ to
  ne7 : h.d3 ≠ to
  hit : s.hp.get itid = some (.iter m clock [] clock)
  hmap : s.hp.get m = some (.map es clock)
  born : ∀ e, e ∈ es → e.b < clock
  nodup : (es.map fun e => e.b).Nodup
  keys : ks.length = es.length ∧ ∀ (i : Nat) e, es[i]? = some e → ∃ z, ks[i]? = some z ∧ e.k = .lit (.int .i64 z)
  prl : pr.length = es.length
  runs : ∀ c, c ≤ (pickL pr ks).length → ∀ (i : Nat) e, es[i]? = some e → ∃ q, pr[i]? = some q ∧ runE P call draw fuel h to itid s.hp s.nx c e = .ok q
  mem : Mem ρ loc s.hp.get w0
  free : FreeAll loc s.nx
  dst : dstC nt h.code = true

/-- Memory but for the iterator. -/
def hB (s : St) (itid : Nat) (j : Nat) : Option OB := if j = itid then none else s.hp.get j

def locO (loc : Lc) (n : Nat) (pl : Pl) : Lc := fun j => if j = n then some pl else loc j

/-- What has been collected lies so. -/
def OutOk (ρ : Nat → Int) (loc : Lc) (n : Nat) (w0 w : World) (zs : List Int) (ov : Value) : Prop :=
  (zs = [] ∧ ov = .slice none 0 0) ∨ (zs ≠ [] ∧ ∃ pl, w0.heap.size ≤ pl.b ∧ pl.b < w.heap.size ∧ V ρ (locO loc n pl) (.sl n 1 0 zs.length zs.length false) ov ∧ Holds ρ loc w pl (.cells (intsL zs)))

/-- How memory stands within the loop. -/
structure LW (ρ : Nat → Int) (s : St) (loc : Lc) (w0 : World) (itid m clock : Nat) (seen : List Nat) (w : World) (zs : List Int) (ov iv : Value) : Prop where
  st : Step ρ loc s.hp.get s.nx w0 loc (hB s itid) s.nx w
  it : ∃ pit mq, loc itid = some pit ∧ loc m = some mq ∧ w.heap[pit.b]? = some (.mapIter (some mq.b) clock seen.toArray clock) ∧ iv = .pointer (some ⟨pit.b, 0, none⟩)
  out : OutOk ρ loc s.nx w0 w zs ov

section
variable {P : Program} {call : Callee} {draw : List Oper → St → R St} {fuel to : Nat} {ρ : Nat → Int} {nt : Nat} {s : St} {loc : Lc} {w0 w : World} {h : Hd} {itid m : Nat} {es : List ME} {clock : Nat} {pr : List Bool} {ks : List Int}

theorem hB_sub {j : Nat} {o : OB} (hj : hB s itid j = some o) : s.hp.get j = some o ∧ j ≠ itid := by
  unfold hB at hj
  split at hj
  · cases hj
  · rename_i e; exact ⟨hj, e⟩

theorem lle_locO {pl : Pl} (hf : FreeAll loc s.nx) : LLe loc (locO loc s.nx pl) := fun j p hj => by
  unfold locO
  split
  · rename_i e; subst e; rw [hf _ (Nat.le_refl _)] at hj; cases hj
  · exact hj

theorem id_lt (hf : FreeAll loc s.nx) {j : Nat} {p : Pl} (hj : loc j = some p) : j < s.nx := by
  rcases Nat.lt_or_ge j s.nx with h | h
  · exact h
  · rw [hf _ h] at hj; cases hj

/-- A place of what was there before. -/
theorem Ctx.lt0 (C : Ctx P call draw fuel to ρ nt s loc w0 h itid m es clock pr ks) {j : Nat} {o : OB} {p : Pl} (hj : s.hp.get j = some o) (hp : loc j = some p) : p.b < w0.heap.size :=
  C.mem.dom_lt ⟨j, o, p, hj, hp, rfl⟩

theorem needs_sym {hp : Tr OB} {v : CV} {nd : List (Nat × List CV)} (h : needs hp v = .ok nd) : noSym v = true := by
  cases v <;> first | rfl | cases h

/-- The body, for one entry. -/
theorem body_ok (hC : ∀ ρ, CallOk P ρ call) (hD : ∀ ρ nt, DrawOk P ρ nt draw) (C : Ctx P call draw fuel to ρ nt s loc w0 h itid m es clock pr ks) {st : List Nat} {zs : List Int} {ov iv : Value} (L : LW ρ s loc w0 itid m clock st w zs ov iv)
    {e : ME} {z : Int} (hk : e.k = .lit (.int .i64 z)) {q : Bool} (hr : runE P call draw fuel h to itid s.hp s.nx zs.length e = .ok q) {a : Act} (ha : ActOk nt a) {kv vv : Value} (h1 : V ρ loc e.k kv) (h2 : V ρ loc e.v vv)
    (t1 : a.tmps.getD h.ti undef = iv) (t2 : a.tmps.getD to undef = ov) (t3 : a.tmps.getD h.d3 undef = .tuple #[kv, vv]) {Rr : Exit → Act → World → Prop}
    (hR : ∀ a' w' ov', LW ρ s loc w0 itid m clock st w' (if q then zs ++ [z] else zs) ov' iv → a'.tmps.getD h.ti undef = iv → a'.tmps.getD to undef = ov' → ActOk nt a' → Rr .normal a' w') :
    wpList P h.ops4 (Exit.then (h.rest.wp P (Exit.inBlock h.id1 Rr)) (Exit.inBlock h.id1 Rr)) h.l4 a w := by
  obtain ⟨nd, r1, r2⟩ := R.bind_ok.1 hr
  obtain ⟨s5, r3, r4⟩ := R.bind_ok.1 r2
  obtain ⟨s4, r5, r6⟩ := R.bind_ok.1 r3
  obtain ⟨x, r7, r8⟩ := R.bind_ok.1 r6
  clear hr r2 r3 r6
  have hnd := needs_ok r1
  obtain ⟨pit, mq, i1, i2, i3, i4⟩ := L.it
  have hdst := C.dst
  simp only [Hd.code, dstC, Bool.and_eq_true] at hdst
  obtain ⟨_, ⟨_, _⟩, d4, dr⟩ := hdst
  have dl4 : dstO nt h.l4 = true := by
    rw [C.ok.ops4] at d4
    simp only [dstO, List.all_cons, Bool.and_eq_true] at d4 ⊢
    exact d4.2
  -- an object that the body looks at
  have hnd2 : ∀ p, p ∈ nd → ∃ pl, loc p.1 = some pl ∧ Holds ρ loc w pl (.cells p.2) ∧ hB s itid p.1 = some (.cells p.2) ∧ p.1 ≠ itid := fun p hp => by
    have hne : p.1 ≠ itid := fun e => by
      have := (hnd p hp).1
      rw [e, C.hit] at this; cases this
    have hb : hB s itid p.1 = some (.cells p.2) := by unfold hB; rw [if_neg hne]; exact (hnd p hp).1
    obtain ⟨pl, g1, g2⟩ := L.st.mem.sat _ _ hb
    exact ⟨pl, g1, g2, hb, hne⟩
  have sym_free : ∀ {xs : List CV}, noSyms xs = true → ∀ (i : Nat) x, xs[i]? = some x → noSym x = true := by
    intro xs
    induction xs with
    | nil => intro _ i x hx; simp at hx
    | cons y ys ih =>
      intro hn i x hx
      simp only [noSyms, Bool.and_eq_true] at hn
      cases i with
      | zero => simp at hx; subst hx; exact hn.1
      | succ i => exact ih hn.2 i x (by simpa using hx)
  -- the memory in which it runs
  let hE : Tr OB := bodyHp s.nx zs.length nd
  have enter : ∃ loc1, LLe loc loc1 ∧ FreeAll loc1 (s.nx + 1) ∧ V (rhoL ρ zs) loc1 (outC s.nx zs.length) ov ∧ Mem (rhoL ρ zs) loc1 hE.get w ∧ (∀ j o, hE.get j = some o → (∃ p, p ∈ nd ∧ p.1 = j ∧ o = .cells p.2) ∨ (j = s.nx ∧ zs ≠ [] ∧ ∃ pl, loc1 j = some pl ∧ w0.heap.size ≤ pl.b)) := by
    have freeO : ∀ pl, FreeAll (locO loc s.nx pl) (s.nx + 1) := fun pl id hid => by
      unfold locO
      rw [if_neg (by omega)]
      exact C.free id (by omega)
    have holdsN : ∀ {loc1 : Lc}, LLe loc loc1 → ∀ p, p ∈ nd → ∃ pl, loc1 p.1 = some pl ∧ Holds (rhoL ρ zs) loc1 w pl (.cells p.2) := fun hl p hp => by
      obtain ⟨pl, g1, ⟨c, ec, k1, k2, k3, k4⟩, _, _⟩ := hnd2 p hp
      refine ⟨pl, hl _ _ g1, c, ec, k1, k2, k3, fun i x hx => ?_⟩
      obtain ⟨v, v1, v2⟩ := k4 i x hx
      exact ⟨v, v1, V.any hl x v (sym_free (hnd p hp).2 i x hx) v2⟩
    have injN : ∀ {loc1 : Lc}, LLe loc loc1 → ∀ p q pl ql, p ∈ nd → q ∈ nd → loc1 p.1 = some pl → loc1 q.1 = some ql → pl.b = ql.b → p.1 = q.1 := fun hl p q pl ql hp hq h1 h2 e => by
      obtain ⟨pl', g1, _, g2, _⟩ := hnd2 p hp
      obtain ⟨ql', k1, _, k2, _⟩ := hnd2 q hq
      have := hl _ _ g1
      rw [h1] at this; cases this
      have := hl _ _ k1
      rw [h2] at this; cases this
      exact L.st.mem.inj _ _ _ _ _ _ g2 k2 g1 k1 e
    rcases L.out with ⟨z0, o0⟩ | ⟨z0, pl, p1, p2, p3, p4⟩
    · have hE0 : hE = putAll nd := by simp [hE, bodyHp, z0]
      have hall : ∀ j o, hE.get j = some o → ∃ p, p ∈ nd ∧ p.1 = j ∧ o = .cells p.2 := fun j o hj => by rw [hE0] at hj; exact putAll_get hj
      refine ⟨loc, .refl loc, fun id hid => C.free id (by omega), by simp [outC, z0, o0, V], ⟨fun j o hj => ?_, fun i j o o' p q hi hj hp hq e => ?_⟩, fun j o hj => .inl (hall j o hj)⟩
      · obtain ⟨p, hp, rfl, rfl⟩ := hall j o hj
        exact holdsN (.refl loc) p hp
      · obtain ⟨p', hp', rfl, rfl⟩ := hall i o hi
        obtain ⟨q', hq', rfl, rfl⟩ := hall j o' hj
        exact injN (.refl loc) p' q' p q hp' hq' hp hq e
    · have hl := lle_locO (pl := pl) C.free
      have hln : locO loc s.nx pl s.nx = some pl := if_pos rfl
      have hz : Nat.beq zs.length 0 = false := by
        cases zs with
        | nil => exact (z0 rfl).elim
        | cons => rfl
      have hall : ∀ j o, hE.get j = some o → (∃ p, p ∈ nd ∧ p.1 = j ∧ o = .cells p.2) ∨ (j = s.nx ∧ o = .cells (symsL zs.length)) := fun j o hj => by
        have hE0 : hE = (putAll nd).set s.nx (.cells (symsL zs.length)) := by simp only [hE, bodyHp, hz, cond_false]
        rw [hE0, Tr.get_set] at hj
        split at hj
        · rename_i e; cases hj; exact .inr ⟨e, rfl⟩
        · exact .inl (putAll_get hj)
      refine ⟨locO loc s.nx pl, hl, freeO pl, ?_, ⟨fun j o hj => ?_, fun i j o o' p q hi hj hp hq e => ?_⟩, fun j o hj => ?_⟩
      · unfold outC
        rw [hz, cond_false]
        exact V.any (.refl _) _ _ rfl p3
      · rcases hall j o hj with ⟨p, hp, rfl, rfl⟩ | ⟨rfl, rfl⟩
        · exact holdsN hl p hp
        · exact ⟨pl, hln, holds_syms p4⟩
      · have far : ∀ p', p' ∈ nd → ∀ r, locO loc s.nx pl p'.1 = some r → r.b ≠ pl.b := fun p' hp' r hr eb => by
          obtain ⟨pl', g1, _, g2, _⟩ := hnd2 p' hp'
          have := hl _ _ g1
          rw [hr] at this; cases this
          have := C.lt0 (hB_sub g2).1 g1
          omega
        rcases hall i o hi with ⟨p', hp', rfl, rfl⟩ | ⟨rfl, rfl⟩ <;> rcases hall j o' hj with ⟨q', hq', rfl, rfl⟩ | ⟨rfl, rfl⟩
        · exact injN hl p' q' p q hp' hq' hp hq e
        · rw [hln] at hq; cases hq
          exact (far p' hp' p hp e).elim
        · rw [hln] at hp; cases hp
          exact (far q' hq' q hq e.symm).elim
        · rfl
      · rcases hall j o hj with g | ⟨rfl, rfl⟩
        · exact .inl g
        · exact .inr ⟨rfl, z0, pl, hln, p1⟩
  obtain ⟨loc1, e1, e2, e3, e4, e5⟩ := enter
  have htm : TmOk (rhoL ρ zs) loc1 (((Tr.e.set h.ti (.it itid)).set to (outC s.nx zs.length)).set h.d3 (.tup [e.k, e.v])) a := fun t u hu => by
    rw [Tr.get_set] at hu
    split at hu
    · rename_i e; subst e
      cases hu
      rw [t3]
      simp only [V]
      refine ⟨_, rfl, .cons ?_ (.cons ?_ .nil)⟩
      · rw [hk] at h1 ⊢
        simpa [V] using h1
      · exact V.any e1 _ _ (needs_sym r1) h2
    · rw [Tr.get_set] at hu
      split at hu
      · rename_i e; subst e
        cases hu
        rw [t2]
        exact e3
      · rw [Tr.get_set] at hu
        split at hu
        · rename_i e; subst e
          cases hu
          rw [t1, i4]
          simp only [V]
          exact ⟨pit, e1 _ _ i1, rfl⟩
        · cases hu
  have ho := ops_ok (orb := none3) (fun _ _ _ _ hh => by cases hh) (hC (rhoL ρ zs)) (ops := h.ops4) r5 dl4 htm e4 e2 ha
  refine ops_ok.wpList_imp ?_ ho
  rintro ex a4 w4 ⟨rfl, loc4, p1, p2, p3, p4⟩
  dsimp only at p1 p2 p3
  -- the rest
  refine wp_mono (code_ok (orb := none3) (fun _ _ _ _ hh => by cases hh) (hC (rhoL ρ zs)) (hD (rhoL ρ zs) nt) (lp := fun _ _ => none) (fun _ _ _ _ hh => by cases hh) fuel h.rest s4 x.1 x.2 r7 dr loc4 a4 w4 p1 p2.mem p3 p4) ?_
  rintro ex a5 w5 ⟨rfl, loc5, q1, q2, q3, q4⟩
  have hx : inB h.id1 x.1 = .normal ∧ x.2 = s5 := by
    split at r8
    · rename_i hn; cases r8; exact ⟨hn, rfl⟩
    · cases r8
  obtain ⟨hx1, rfl⟩ := hx
  have t := p2.trans q2
  clear p2 q2
  have fin : Rr .normal a5 w5 := by
    obtain ⟨c1, c2⟩ := R.bind_ok.1 r4
    obtain ⟨c2, c3⟩ := c2
    obtain ⟨c4, c5⟩ := R.if_ok.1 c3
    obtain ⟨_, c6, c7⟩ := R.bind_ok.1 c5
    obtain ⟨ovc, c8, c9⟩ := R.bind_ok.1 c7
    have c8 := R.of_ok.1 c8
    have same := sameAll_ok c6
    have hl2 : LLe loc loc5 := e1.trans (t.lle (e2.free _))
    have hl1 := t.lle (e2.free _)
    have hti : a5.tmps.getD h.ti undef = iv := by
      have := q1 h.ti _ (R.of_ok.1 c2)
      rw [eqCV_eq _ _ c4] at this
      simp only [V] at this
      obtain ⟨p, g1, g2⟩ := this
      rw [hl2 _ _ i1] at g1; cases g1
      rw [g2, i4]
    -- blocks that the body does not know of
    have kept : ∀ b, b < w.heap.size → ¬ Dom loc1 hE.get b → w5.heap[b]? = w.heap[b]? := t.fr.kept
    have dom1 : ∀ b, Dom loc1 hE.get b → Dom loc (hB s itid) b ∨ w0.heap.size ≤ b := by
      rintro b ⟨j, o, p, g1, g2, rfl⟩
      rcases e5 j o g1 with ⟨p', hp', rfl, rfl⟩ | ⟨rfl, _, pl, k1, k2⟩
      · obtain ⟨pl', k1, _, k2, _⟩ := hnd2 p' hp'
        have := e1 _ _ k1
        rw [g2] at this; cases this
        exact .inl ⟨_, _, _, k2, k1, rfl⟩
      · rw [g2] at k1; cases k1
        exact .inr k2
    have st5 : Step ρ loc s.hp.get s.nx w0 loc (hB s itid) s.nx w5 := by
      refine ⟨⟨fun j o hj => ?_, L.st.mem.inj⟩, Nat.le_refl _, fun _ _ => rfl, ⟨t.fr.os.trans L.st.fr.os, t.fr.tape.trans L.st.fr.tape, t.fr.output.trans L.st.fr.output, Nat.le_trans L.st.fr.size t.fr.size, fun b hb hn => ?_, L.st.fr.own⟩⟩
      · obtain ⟨pj, g1, g2⟩ := L.st.mem.sat j o hj
        by_cases hin : ∃ p, p ∈ nd ∧ p.1 = j
        · obtain ⟨p, hp, rfl⟩ := hin
          obtain ⟨pl, k1, ⟨c0, ec0, m1, m2, m3, m4⟩, k3, k4⟩ := hnd2 p hp
          rw [hj] at k3; cases k3
          rw [g1] at k1; cases k1
          obtain ⟨p5, n1, c5', ec5, n2, n3, n4, n5⟩ := t.mem.sat p.1 _ (same p hp)
          rw [hl2 _ _ g1] at n1; cases n1
          refine ⟨_, g1, c5', ec5, n2, n3, n4, fun i x hx => ?_⟩
          obtain ⟨v, v1, v2⟩ := n5 i x hx
          obtain ⟨u, u1, u2⟩ := m4 i x hx
          exact ⟨v, v1, V.back hl2 x u v (sym_free (hnd p hp).2 i x hx) u2 v2⟩
        · refine ⟨pj, g1, g2.mono (.refl _) (kept _ g2.lt ?_)⟩
          rintro ⟨k, o', p, k1, k2, k3⟩
          rcases e5 k o' k1 with ⟨p', hp', rfl, rfl⟩ | ⟨rfl, _, pl, n1, n2⟩
          · obtain ⟨pl', n1, _, n2, _⟩ := hnd2 p' hp'
            have := e1 _ _ n1
            rw [k2] at this; cases this
            exact hin ⟨p', hp', L.st.mem.inj _ _ _ _ _ _ n2 hj n1 g1 k3⟩
          · rw [k2] at n1; cases n1
            have := C.lt0 (hB_sub hj).1 g1
            omega
      · rw [kept b (Nat.lt_of_lt_of_le hb L.st.fr.size) fun hd => ?_]
        · exact L.st.fr.kept b hb hn
        · rcases dom1 b hd with ⟨j, o, p, g1, g2, g3⟩ | g
          · exact hn ⟨j, o, p, (hB_sub g1).1, g2, g3⟩
          · omega
    have itk : w5.heap[pit.b]? = w.heap[pit.b]? := by
      have hlt := C.lt0 C.hit i1
      refine kept _ (Nat.lt_of_lt_of_le hlt L.st.fr.size) fun hd => ?_
      rcases dom1 _ hd with ⟨j, o, p, g1, g2, g3⟩ | g
      · obtain ⟨g4, g5⟩ := hB_sub g1
        exact g5 (C.mem.inj _ _ _ _ _ _ g4 C.hit g2 i1 g3)
      · omega
    have mk : ∀ zs' ov', OutOk ρ loc s.nx w0 w5 zs' ov' → LW ρ s loc w0 itid m clock st w5 zs' ov' iv := fun zs' ov' ho => ⟨st5, ⟨pit, mq, i1, i2, by rw [itk]; exact i3, i4⟩, ho⟩
    cases hq : eqCV ovc (outC s.nx zs.length) with
    | true =>
      rw [hq, cond_true] at c9
      have hoc := eqCV_eq _ _ hq
      subst hoc
      have hov := q1 to _ c8
      cases hz : Nat.beq zs.length 0 with
      | true =>
        rw [hz, cond_true] at c9
        cases c9
        have z0 : zs = [] := List.length_eq_zero_iff.1 (Nat.eq_of_beq_eq_true hz)
        refine hR a5 w5 (.slice none 0 0) (mk _ _ (.inl ⟨by simp [z0], rfl⟩)) hti ?_ q4
        unfold outC at hov
        rw [hz, cond_true] at hov
        simpa [V] using hov
      | false =>
        rw [hz, cond_false] at c9
        obtain ⟨_, c10, c11⟩ := R.bind_ok.1 c9
        cases c11
        have z0 : zs ≠ [] := fun e => by rw [e] at hz; cases hz
        have hcell := sameCells_ok c10
        dsimp only at hcell
        obtain ⟨pl, g1, g2⟩ := t.mem.sat _ _ hcell
        unfold outC at hov
        rw [hz, cond_false] at hov
        refine hR a5 w5 _ (mk zs _ (.inr ⟨z0, pl, ?_, g2.lt, ?_, ?_⟩)) hti rfl q4
        · have hEn : (∃ o, hE.get s.nx = some o) := by
            refine ⟨.cells (symsL zs.length), ?_⟩
            have hE0 : hE = (putAll nd).set s.nx (.cells (symsL zs.length)) := by simp only [hE, bodyHp, hz, cond_false]
            rw [hE0, Tr.get_set, if_pos rfl]
          obtain ⟨o, ho⟩ := hEn
          rcases e5 _ _ ho with ⟨p', hp', k1, _⟩ | ⟨_, _, pl', k1, k2⟩
          · obtain ⟨pl', n1, _⟩ := hnd2 p' hp'
            have := id_lt C.free n1
            omega
          · have := hl1 _ _ k1
            rw [g1] at this; cases this
            exact k2
        · simp only [V] at hov ⊢
          obtain ⟨p, ad, c', n1, n2⟩ := hov
          rw [g1] at n1; cases n1
          exact ⟨pl, ad, c', if_pos rfl, n2⟩
        · have := holds_ints (ρ' := ρ) (loc' := loc) (more := []) (by simpa [intsL] using g2)
          simpa using this
    | false =>
      rw [hq, cond_false] at c9
      cases ovc with
      | sl o' st' off' len' cap' ex' =>
        obtain ⟨c10, c11⟩ := R.if_ok.1 c9
        obtain ⟨_, c12, c13⟩ := R.bind_ok.1 c11
        cases c13
        simp only [Bool.and_eq_true, Bool.not_eq_true'] at c10
        obtain ⟨⟨⟨⟨⟨b1, b2⟩, b3⟩, b4⟩, b5⟩, b6⟩ := c10
        have b1 : s.nx ≤ o' := Nat.le_of_ble_eq_true b1
        have b2 := Nat.eq_of_beq_eq_true b2
        have b3 := Nat.eq_of_beq_eq_true b3
        have b4 := Nat.eq_of_beq_eq_true b4
        have b5 := Nat.eq_of_beq_eq_true b5
        subst b2 b3 b4 b5 b6
        have hcell := sameCells_ok c12
        dsimp only at hcell
        rw [hk] at hcell
        have hov := q1 to _ c8
        obtain ⟨pl, g1, g2⟩ := t.mem.sat _ _ hcell
        refine hR a5 w5 _ (mk (zs ++ [z]) _ (.inr ⟨by simp, pl, ?_, g2.lt, ?_, ?_⟩)) hti rfl q4
        · rcases t.fr.own pl.b ⟨_, _, _, hcell, g1, rfl⟩ with ⟨j, o, p, k1, k2, k3⟩ | g
          · rcases e5 j o k1 with ⟨p', hp', rfl, rfl⟩ | ⟨rfl, _, pl', n1, n2⟩
            · exfalso
              obtain ⟨pl', n1, _⟩ := hnd2 p' hp'
              have hlt := id_lt C.free n1
              have := t.mem.inj _ _ _ _ _ _ (same p' hp') hcell (hl1 _ _ k2) g1 k3
              omega
            · rw [k2] at n1; cases n1
              rw [← k3]; exact n2
          · exact Nat.le_trans L.st.fr.size g
        · simp only [V] at hov ⊢
          obtain ⟨p, ad, c', n1, n2, n3, _, n5, n6⟩ := hov
          rw [g1] at n1; cases n1
          refine ⟨pl, ad, c', if_pos rfl, ?_⟩
          rw [List.length_append]
          exact ⟨n2, n3, (by simp), n5, n6⟩
        · exact holds_ints (ρ' := ρ) (loc' := loc) (more := [z]) (by simpa [intsL] using g2)
      | _ => cases c9
  revert hx1
  cases x.1 with
  | normal => intro _; exact fin
  | exit id' =>
    intro hx1
    simp only [inB] at hx1
    simp only [Exit.inBlock]
    by_cases e : id' = h.id1
    · rw [if_pos e]; exact fin
    · have : Nat.beq id' h.id1 = false := by
        cases hb : Nat.beq id' h.id1 with
        | false => rfl
        | true => exact (e (Nat.eq_of_beq_eq_true hb)).elim
      rw [this] at hx1; cases hx1
  | _ => intro hx1; cases hx1

end

end Go.Cx
