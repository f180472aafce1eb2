/- Regions whose order is drawn: the pass in the order of the text, step by step. No program is named here. -/
import Derived.Test.YtlffgjppnbhahaaGreatX20
set_option linter.unusedSimpArgs false
set_option linter.unusedVariables false
set_option maxHeartbeats 1000000
namespace Go.Cx

theorem le_ind {i : Nat} {motive : (j : Nat) → i ≤ j → Prop} (base : motive i (Nat.le_refl i)) (succ : ∀ j (h : i ≤ j), motive j h → motive (j + 1) (Nat.le_succ_of_le h)) : ∀ (j : Nat) (h : i ≤ j), motive j h := by
  intro j h
  obtain ⟨k, rfl⟩ := Nat.exists_eq_add_of_le h
  induction k with
  | zero => exact base
  | succ k ih => exact succ (i + k) (Nat.le_add_right i k) (ih (Nat.le_add_right i k))

theorem eqVal_eq {a b : Value} (h : eqVal a b = true) : a = b := by
  unfold eqVal at h
  split at h
  · split at h
    · simp at h; rw [h]
    · cases h
  · split at h
    · simp at h; rw [h.1, h.2]
    · cases h
  · split at h
    · rename_i x _ y
      unfold bytesEq at h
      obtain ⟨x⟩ := x
      obtain ⟨y⟩ := y
      simp at h
      rw [h]
    · cases h
  · split at h
    · rfl
    · cases h
  · split at h
    · rw [Bool.and_eq_true] at h
      rw [Nat.eq_of_beq_eq_true h.1, Nat.eq_of_beq_eq_true h.2]
    · cases h
  · split at h
    · rfl
    · cases h
  · split at h
    · rfl
    · cases h
  · split at h
    · rfl
    · cases h
  · cases h

mutual
theorem eqCV_eq : ∀ (x y : CV), eqCV x y = true → x = y
  | .lit a, y, h => by
    cases y <;> simp only [eqCV] at h <;> first | cases h; done | rw [eqVal_eq h]
  | .sym a, y, h => by
    cases y <;> simp only [eqCV] at h <;> first | cases h; done | rw [Nat.eq_of_beq_eq_true h]
  | .ptr a b, y, h => by
    cases y <;> simp only [eqCV] at h <;> first | cases h; done | skip
    rw [Bool.and_eq_true] at h
    rw [Nat.eq_of_beq_eq_true h.1, Nat.eq_of_beq_eq_true h.2]
  | .sl a b c d e f, y, h => by
    cases y <;> simp only [eqCV] at h <;> first | cases h; done | skip
    simp only [Bool.and_eq_true] at h
    obtain ⟨⟨⟨⟨⟨h1, h2⟩, h3⟩, h4⟩, h5⟩, h6⟩ := h
    rw [Nat.eq_of_beq_eq_true h1, Nat.eq_of_beq_eq_true h2, Nat.eq_of_beq_eq_true h3, Nat.eq_of_beq_eq_true h4, Nat.eq_of_beq_eq_true h5, beq_iff_eq.1 h6]
  | .mp a, y, h => by
    cases y <;> simp only [eqCV] at h <;> first | cases h; done | rw [Nat.eq_of_beq_eq_true h]
  | .it a, y, h => by
    cases y <;> simp only [eqCV] at h <;> first | cases h; done | rw [Nat.eq_of_beq_eq_true h]
  | .ifc t v, y, h => by
    cases y <;> simp only [eqCV] at h <;> first | cases h; done | skip
    rw [Bool.and_eq_true] at h
    rw [Nat.eq_of_beq_eq_true h.1, eqCV_eq v _ h.2]
  | .agg cs, y, h => by
    cases y <;> simp only [eqCV] at h <;> first | cases h; done | rw [eqCVs_eq cs _ h]
  | .tup cs, y, h => by
    cases y <;> simp only [eqCV] at h <;> first | cases h; done | rw [eqCVs_eq cs _ h]
  | .fn _ _ _, _, h => by simp only [eqCV] at h; cases h
theorem eqCVs_eq : ∀ (x y : List CV), eqCVs x y = true → x = y
  | [], y, h => by cases y <;> simp only [eqCVs] at h <;> first | rfl | cases h
  | a :: l, y, h => by
    cases y with
    | nil => simp only [eqCVs] at h; cases h
    | cons b m =>
      simp only [eqCVs, Bool.and_eq_true] at h
      rw [eqCV_eq a b h.1, eqCVs_eq l m h.2]
end

/-- What one operation of the pass was. -/
inductive Kd (P : Program) (orb : BinOp → CV → CV → Option CV) (call : Callee) (nx0 : Nat) (all : List Oper) (ms : List Nat) (i : Nat) (o : Oper) (tm : Tr CV) (d : DS) : DS → Prop
  | skip : wantedV tm all o = .ok false → Kd P orb call nx0 all ms i o tm d { d with tm := putD d.tm o.dst none' }
  | pure (v : CV) (hp : Tr OB) (nx : Nat) : wantedV tm all o = .ok true → clOf o.op = .pure → execO P orb ⟨tm, .e, 0⟩ o.op = .ok (.val v hp nx) → Kd P orb call nx0 all ms i o tm d { d with tm := putD d.tm o.dst v }
  | alloc (v : CV) (hp : Tr OB) (ob : OB) : wantedV tm all o = .ok true → execO P orb ⟨tm, .e, nx0 + i⟩ o.op = .ok (.val v hp (nx0 + i + 1)) → hp.get (nx0 + i) = some ob →
      Kd P orb call nx0 all ms i o tm d { d with tm := putD d.tm o.dst v, pend := (i, ob) :: d.pend }
  | read (v : CV) (hp : Tr OB) (nx : Nat) : wantedV tm all o = .ok true → clOf o.op = .read → execO P orb ⟨tm, slotHp nx0 (ms.getD i 0) d.pend d.hp, 0⟩ o.op = .ok (.val v hp nx) → readsBack P orb nx0 (ms.getD i 0) o.op tm v d.hist = .ok () →
      Kd P orb call nx0 all ms i o tm d { d with tm := putD d.tm o.dst v, reads := ⟨i, o.op, tm, ms.getD i 0, v⟩ :: d.reads }
  | eff (v : CV) (hp : Tr OB) (nx : Nat) : wantedV tm all o = .ok true → (∀ e rest, d.hist = e :: rest → (ms.getD i 0).testBit e.i = true) → execU P orb call o.op ⟨tm, slotHp nx0 (ms.getD i 0) d.pend d.hp, d.nx⟩ = .ok (v, hp, nx) →
      readsOn P orb nx0 (ms.getD i 0) (left? (ms.getD i 0) d.pend) hp d.reads = .ok () → noSlot nx0 (ms.getD i 0) hp all.length = true →
      Kd P orb call nx0 all ms i o tm d ⟨putD d.tm o.dst v, hp, nx, left? (ms.getD i 0) d.pend, ⟨i, d.hp, d.pend⟩ :: d.hist, d.reads⟩

section
variable {P : Program} {orb : BinOp → CV → CV → Option CV} {call : Callee} {nx0 : Nat} {all : List Oper} {ms : List Nat}

theorem stepD_kd {i : Nat} {o : Oper} {d d' : DS} (h : stepD P orb call nx0 all ms i o d = .ok d') : ∃ tm, restr all ms i (ms.getD i 0) d.tm (tmpsOf o.op.operands.toList ++ guardT all o) = .ok tm ∧ Kd P orb call nx0 all ms i o tm d d' := by
  obtain ⟨tm, h1, h⟩ := R.bind_ok.1 h
  obtain ⟨w, h2, h⟩ := R.bind_ok.1 h
  refine ⟨tm, h1, ?_⟩
  cases w with
  | false => cases h; exact .skip h2
  | true =>
    rw [Bool.not_true, cond_false] at h
    split at h
    · rename_i hc
      obtain ⟨r, h3, h⟩ := R.bind_ok.1 h
      split at h
      · cases h; exact .pure _ _ _ h2 hc h3
      · cases h
    · obtain ⟨r, h3, h⟩ := R.bind_ok.1 h
      split at h
      · obtain ⟨h4, h⟩ := R.if_ok.1 h
        obtain ⟨ob, h5, h⟩ := R.bind_ok.1 h
        cases h
        have h4 := Nat.eq_of_beq_eq_true h4
        subst h4
        exact .alloc _ _ _ h2 h3 (R.of_ok.1 h5)
      · cases h
    · rename_i hc
      obtain ⟨r, h3, h⟩ := R.bind_ok.1 h
      split at h
      · obtain ⟨u, h4, h⟩ := R.bind_ok.1 h
        cases h
        exact .read _ _ _ h2 hc h3 h4
      · cases h
    · obtain ⟨h3, h⟩ := R.if_ok.1 h
      obtain ⟨r, h4, h⟩ := R.bind_ok.1 h
      obtain ⟨x, h5, h⟩ := R.bind_ok.1 h
      obtain ⟨u, h6, h⟩ := R.bind_ok.1 h
      obtain ⟨h7, h⟩ := R.if_ok.1 h
      cases h
      obtain ⟨v, hp, nx⟩ := x
      refine .eff v hp nx h2 (fun e rest he => by rw [he] at h3; exact h3) ?_ h6 h7
      unfold execU
      exact R.bind_ok.2 ⟨r, h4, h5⟩

/-- The pass, state by state. -/
theorem passD_tr : ∀ {l : List Oper} {i : Nat} {d d' : DS}, passD P orb call nx0 all ms i l d = .ok d' →
    ∃ D : Nat → DS, D i = d ∧ D (i + l.length) = d' ∧ ∀ k o, l[k]? = some o → stepD P orb call nx0 all ms (i + k) o (D (i + k)) = .ok (D (i + k + 1))
  | [], i, d, d', h => by
    cases h
    exact ⟨fun _ => d, rfl, rfl, fun k o hk => by simp at hk⟩
  | o :: l, i, d, d', h => by
    obtain ⟨d1, h1, h2⟩ := R.bind_ok.1 h
    rw [R.mark_ok] at h1
    obtain ⟨D, e1, e2, e3⟩ := passD_tr h2
    refine ⟨fun j => if j = i then d else D j, if_pos rfl, ?_, fun k o' hk => ?_⟩
    · dsimp only
      rw [if_neg (by simp), ← e2]
      congr 1
      simp; omega
    · cases k with
      | zero =>
        simp at hk
        subst hk
        dsimp only
        rw [if_pos (by omega), if_neg (by omega)]
        rw [show i + 0 + 1 = i + 1 by omega, e1]
        exact h1
      | succ k =>
        dsimp only
        rw [if_neg (by omega), if_neg (by omega)]
        have := e3 k o' (by simpa using hk)
        rw [show i + (k + 1) = i + 1 + k by omega]
        exact this

/-- A trace of the pass. -/
structure Tra (P : Program) (orb : BinOp → CV → CV → Option CV) (call : Callee) (nx0 : Nat) (all : List Oper) (D : Nat → DS) : Prop where
  hist0 : (D 0).hist = []
  pend0 : (D 0).pend = []
  once : onceW all = true
  back : backE 0 all = true
  step : ∀ i o, all[i]? = some o → ∃ tm, restr all (masks [] all) i ((masks [] all).getD i 0) (D i).tm (tmpsOf o.op.operands.toList ++ guardT all o) = .ok tm ∧ Kd P orb call nx0 all (masks [] all) i o tm (D i) (D (i + 1))

/-- What must come before an operation. -/
def Mk (all : List Oper) (i : Nat) : Nat := (masks [] all).getD i 0

variable {D : Nat → DS}

theorem Tra.mk_bit (T : Tra P orb call nx0 all D) {i : Nat} {o : Oper} (hi : all[i]? = some o) (b : Nat) : (Mk all i).testBit b = true ↔ ∃ e, e ∈ o.after.toList ∧ Region.binds .any e = true ∧ (b = e.on ∨ (Mk all e.on).testBit b = true) := by
  have := masks_at (acc := []) (l := all) T.back hi
  simp only [List.length_nil, Nat.zero_add] at this
  unfold Mk
  rw [this]
  exact maskOf_bit _ b _

theorem mk_none {i : Nat} (hi : all[i]? = none) : Mk all i = 0 := by
  have hl : ∀ (l : List Oper) (acc : List Nat), (masks acc l).length = acc.length + l.length := by
    intro l
    induction l with
    | nil => intro acc; rfl
    | cons o l ih => intro acc; unfold masks; rw [ih]; simp; omega
  unfold Mk
  rw [List.getD_eq_getElem?_getD, List.getElem?_eq_none (by rw [hl]; have := List.getElem?_eq_none_iff.1 hi; simpa using this)]
  rfl

theorem Tra.mk_lt (T : Tra P orb call nx0 all D) : ∀ (i b : Nat), (Mk all i).testBit b = true → b < i := by
  intro i
  induction i using Nat.strongRecOn with
  | _ i ih =>
    intro b hb
    cases hi : all[i]? with
    | none => rw [mk_none hi] at hb; simp at hb
    | some o =>
      obtain ⟨e, h1, h2, h3⟩ := (T.mk_bit hi b).1 hb
      have := backE_at T.back hi e h1 h2
      rcases h3 with h3 | h3
      · omega
      · have := ih e.on (by omega) b h3
        omega

theorem Tra.mk_trans (T : Tra P orb call nx0 all D) : ∀ (i e b : Nat), (Mk all i).testBit e = true → (Mk all e).testBit b = true → (Mk all i).testBit b = true := by
  intro i
  induction i using Nat.strongRecOn with
  | _ i ih =>
    intro e b he hb
    cases hi : all[i]? with
    | none => rw [mk_none hi] at he; simp at he
    | some o =>
      obtain ⟨g, h1, h2, h3⟩ := (T.mk_bit hi e).1 he
      have := backE_at T.back hi g h1 h2
      refine (T.mk_bit hi b).2 ⟨g, h1, h2, .inr ?_⟩
      rcases h3 with h3 | h3
      · rw [← h3]; exact hb
      · exact ih g.on (by omega) e b h3 hb

/-- An effect. -/
def Ef (D : Nat → DS) (e : Nat) : Prop := (D (e + 1)).hist = ⟨e, (D e).hp, (D e).pend⟩ :: (D e).hist

theorem Tra.get {i : Nat} (hi : i < all.length) : ∃ o, all[i]? = some o := ⟨all[i], List.getElem?_eq_getElem hi⟩

theorem Tra.quiet (T : Tra P orb call nx0 all D) {i : Nat} (hi : i < all.length) (he : ¬ Ef D i) : (D (i + 1)).hist = (D i).hist ∧ (D (i + 1)).hp = (D i).hp ∧ (D (i + 1)).nx = (D i).nx := by
  obtain ⟨o, ho⟩ := Tra.get hi
  obtain ⟨tm, _, k⟩ := T.step i o ho
  unfold Ef at he
  generalize D (i + 1) = d' at k he
  cases k <;> first | exact ⟨rfl, rfl, rfl⟩ | exact (he rfl).elim

theorem Tra.quiets (T : Tra P orb call nx0 all D) {i : Nat} : ∀ {j : Nat}, i ≤ j → j ≤ all.length → (∀ e, i ≤ e → e < j → ¬ Ef D e) → (D j).hist = (D i).hist ∧ (D j).hp = (D i).hp ∧ (D j).nx = (D i).nx := by
  intro j hij
  induction j, hij using le_ind with
  | base => intro _ _; exact ⟨rfl, rfl, rfl⟩
  | succ j hij ih =>
    intro hj he
    obtain ⟨h1, h2, h3⟩ := ih (by omega) fun e h1 h2 => he e h1 (by omega)
    obtain ⟨g1, g2, g3⟩ := T.quiet (i := j) (by omega) (he j hij (by omega))
    exact ⟨g1.trans h1, g2.trans h2, g3.trans h3⟩

/-- The last effect before a place; the first one from a place on. -/
theorem last_ef (D : Nat → DS) (i : Nat) : ∀ j, i ≤ j → (∀ e, i ≤ e → e < j → ¬ Ef D e) ∨ ∃ e, i ≤ e ∧ e < j ∧ Ef D e ∧ ∀ e', e < e' → e' < j → ¬ Ef D e' := by
  intro j hij
  induction j, hij using le_ind with
  | base => exact .inl fun e h1 h2 => by omega
  | succ j hij ih =>
    by_cases h : Ef D j
    · exact .inr ⟨j, hij, by omega, h, fun e' h1 h2 => by omega⟩
    · rcases ih with ih | ⟨e, h1, h2, h3, h4⟩
      · refine .inl fun e h1 h2 => ?_
        by_cases e' : e = j
        · subst e'; exact h
        · exact ih e h1 (by omega)
      · refine .inr ⟨e, h1, by omega, h3, fun e' h5 h6 => ?_⟩
        by_cases e'' : e' = j
        · subst e''; exact h
        · exact h4 e' h5 (by omega)

theorem first_ef (D : Nat → DS) (i : Nat) : ∀ j, i ≤ j → (∀ e, i ≤ e → e < j → ¬ Ef D e) ∨ ∃ e, i ≤ e ∧ e < j ∧ Ef D e ∧ ∀ e', i ≤ e' → e' < e → ¬ Ef D e' := by
  intro j hij
  induction j, hij using le_ind with
  | base => exact .inl fun e h1 h2 => by omega
  | succ j hij ih =>
    rcases ih with ih | ⟨e, h1, h2, h3, h4⟩
    · by_cases h : Ef D j
      · exact .inr ⟨j, hij, by omega, h, ih⟩
      · refine .inl fun e h1 h2 => ?_
        by_cases e' : e = j
        · subst e'; exact h
        · exact ih e h1 (by omega)
    · exact .inr ⟨e, h1, by omega, h3, h4⟩

/-- What the last effect before a place has taken. -/
def Cm (all : List Oper) (D : Nat → DS) (p : Nat) : Nat :=
  match (D p).hist with
  | [] => 0
  | e :: _ => Mk all e.i

theorem cm_of {p q : Nat} (h : (D p).hist = (D q).hist) : Cm all D p = Cm all D q := by unfold Cm; rw [h]

theorem cm_ef {e : Nat} (h : Ef D e) : Cm all D (e + 1) = Mk all e := by unfold Cm; rw [h]

/-- The head of the history is the last effect. -/
theorem Tra.hist_head (T : Tra P orb call nx0 all D) : ∀ {i : Nat}, i ≤ all.length → ∀ {e : Ep} {rest : List Ep}, (D i).hist = e :: rest → e.i < i ∧ Ef D e.i ∧ (∀ e', e.i < e' → e' < i → ¬ Ef D e') ∧ e.hp = (D e.i).hp ∧ e.pend = (D e.i).pend ∧ rest = (D e.i).hist
  | 0, _, e, rest, h => by rw [T.hist0] at h; cases h
  | i + 1, hi, e, rest, h => by
    by_cases he : Ef D i
    · have h2 := h
      rw [he] at h2
      cases h2
      exact ⟨by dsimp only; omega, he, fun e' h1 h2 => by dsimp only at h1; omega, rfl, rfl, rfl⟩
    · rw [(T.quiet (by omega) he).1] at h
      obtain ⟨h1, h2, h3, h4⟩ := T.hist_head (i := i) (by omega) h
      refine ⟨by omega, h2, fun e' g1 g2 => ?_, h4⟩
      by_cases e'' : e' = i
      · subst e''; exact he
      · exact h3 e' g1 (by omega)

theorem Tra.cm_lt (T : Tra P orb call nx0 all D) {p : Nat} (hp : p ≤ all.length) {b : Nat} (h : (Cm all D p).testBit b = true) : b < p := by
  unfold Cm at h
  split at h
  · simp at h
  · rename_i e rest he
    have := (T.hist_head hp he).1
    have := T.mk_lt _ _ h
    omega

/-- A new object, by the operation that makes it. -/
def Al (D : Nat → DS) (a : Nat) (ob : OB) : Prop := (a, ob) ∈ (D (a + 1)).pend

theorem mem_left {m : Nat} {pend : List (Nat × OB)} {a : Nat} {ob : OB} : (a, ob) ∈ left? m pend ↔ (a, ob) ∈ pend ∧ m.testBit a = false := by
  unfold left?
  simp

theorem Tra.pend_iff (T : Tra P orb call nx0 all D) : ∀ {i : Nat}, i ≤ all.length → ∀ a ob, (a, ob) ∈ (D i).pend ↔ a < i ∧ Al D a ob ∧ (Cm all D i).testBit a = false
  | 0, _, a, ob => by rw [T.pend0]; simp
  | i + 1, hi, a, ob => by
    have ih := T.pend_iff (i := i) (by omega)
    obtain ⟨o, ho⟩ := Tra.get (show i < all.length by omega)
    obtain ⟨tm, _, k⟩ := T.step i o ho
    -- what stays
    have same : (D (i + 1)).pend = (D i).pend → (D (i + 1)).hist = (D i).hist → ((a, ob) ∈ (D (i + 1)).pend ↔ a < i + 1 ∧ Al D a ob ∧ (Cm all D (i + 1)).testBit a = false) := fun h1 h2 => by
      rw [cm_of h2, h1, ih]
      constructor
      · rintro ⟨g1, g2⟩; exact ⟨by omega, g2⟩
      · rintro ⟨g1, g2, g3⟩
        refine ⟨?_, g2, g3⟩
        rcases Nat.lt_or_ge a i with h | h
        · exact h
        · have : a = i := by omega
          subst this
          unfold Al at g2
          rw [h1, ih] at g2
          exact g2.1
    generalize hd : D (i + 1) = d' at k
    cases k with
    | skip h2 => rw [← hd]; exact same (by rw [hd]) (by rw [hd])
    | pure v hp nx h2 h3 h4 => rw [← hd]; exact same (by rw [hd]) (by rw [hd])
    | read v hp nx h2 h3 h4 h5 => rw [← hd]; exact same (by rw [hd]) (by rw [hd])
    | alloc v hp ob' h2 h3 h4 =>
      have hc : Cm all D (i + 1) = Cm all D i := cm_of (by rw [hd])
      rw [hc]
      show (a, ob) ∈ (i, ob') :: (D i).pend ↔ _
      rw [List.mem_cons, ih]
      constructor
      · rintro (h | ⟨g1, g2⟩)
        · cases h
          refine ⟨by omega, ?_, ?_⟩
          · unfold Al; rw [hd]; exact List.mem_cons_self
          · cases hb : (Cm all D i).testBit i with
            | false => rfl
            | true => exact absurd (T.cm_lt (by omega) hb) (by omega)
        · exact ⟨by omega, g2⟩
      · rintro ⟨g1, g2, g3⟩
        rcases Nat.lt_or_ge a i with h | h
        · exact .inr ⟨h, g2, g3⟩
        · have : a = i := by omega
          subst this
          unfold Al at g2
          rw [hd] at g2
          have g2 : (a, ob) ∈ (a, ob') :: (D a).pend := g2
          rcases List.mem_cons.1 g2 with h' | h'
          · exact .inl h'
          · exact .inr ((ih a ob).1 h')
    | eff v hp nx h2 h3 h4 h5 h6 =>
      have he : Ef D i := by unfold Ef; rw [hd]
      have hc : Cm all D (i + 1) = Mk all i := cm_ef he
      rw [hc]
      show (a, ob) ∈ left? (Mk all i) (D i).pend ↔ _
      rw [mem_left, ih]
      constructor
      · rintro ⟨⟨g1, g2, g3⟩, g4⟩; exact ⟨by omega, g2, g4⟩
      · rintro ⟨g1, g2, g3⟩
        refine ⟨⟨?_, g2, ?_⟩, g3⟩
        · rcases Nat.lt_or_ge a i with h | h
          · exact h
          · have : a = i := by omega
            subst this
            unfold Al at g2
            rw [hd] at g2
            have g2 : (a, ob) ∈ left? (Mk all a) (D a).pend := g2
            exact ((ih a ob).1 (mem_left.1 g2).1).1
        · cases hb : (Cm all D i).testBit a with
          | false => rfl
          | true =>
            unfold Cm at hb
            split at hb
            · simp at hb
            · rename_i e rest hh
              have := T.mk_trans i e.i a (h3 e rest hh) hb
              rw [g3] at this; cases this

theorem Tra.cm_sub (T : Tra P orb call nx0 all D) {i : Nat} (hi : i < all.length) (he : Ef D i) {b : Nat} (h : (Cm all D i).testBit b = true) : (Mk all i).testBit b = true := by
  obtain ⟨o, ho⟩ := Tra.get hi
  obtain ⟨tm, _, k⟩ := T.step i o ho
  have hne : ∀ {l : List Ep} {e : Ep}, l ≠ e :: l := fun {l e} h => by
    have := congrArg List.length h
    simp at this
  unfold Ef at he
  unfold Cm at h
  split at h
  · simp at h
  · rename_i e rest hh
    have h3 : (Mk all i).testBit e.i = true := by
      generalize D (i + 1) = d' at k he
      cases k with
      | eff v hp nx h2 h3 h4 h5 h6 => exact h3 e rest hh
      | _ => exact (hne he).elim
    exact T.mk_trans i e.i b h3 h

/-- Nothing lies at the numbers of new objects that no effect has taken. -/
theorem Tra.none_at (T : Tra P orb call nx0 all D) (h0 : ∀ a, a < all.length → (D 0).hp.get (nx0 + a) = none) : ∀ {p : Nat}, p ≤ all.length → ∀ a, a < all.length → (Cm all D p).testBit a = false → (D p).hp.get (nx0 + a) = none
  | 0, _, a, ha, _ => h0 a ha
  | p + 1, hp, a, ha, hc => by
    by_cases he : Ef D p
    · rw [cm_ef he] at hc
      obtain ⟨o, ho⟩ := Tra.get (show p < all.length by omega)
      obtain ⟨tm, _, k⟩ := T.step p o ho
      have hne : ∀ {l : List Ep} {e : Ep}, l ≠ e :: l := fun {l e} h => by
        have := congrArg List.length h
        simp at this
      unfold Ef at he
      generalize D (p + 1) = d' at k he
      cases k with
      | eff v hp' nx h2 h3 h4 h5 h6 => exact noSlot_at h6 a ha hc
      | _ => exact (hne he).elim
    · obtain ⟨h1, h2, _⟩ := T.quiet (i := p) (by omega) he
      rw [h2]
      exact T.none_at h0 (by omega) a ha (by rw [← cm_of h1]; exact hc)

end

end Go.Cx
