/- Two values of a structure's type; operations on two values; conversions: each operation. No program is named here. -/
import Derived.Test.YtlffgjppnbhahaaGreatX11
set_option linter.unusedSimpArgs false
set_option linter.unusedVariables false
set_option maxHeartbeats 1000000
namespace Go.Cx

section
variable {P : Program} {orb : BinOp → CV → CV → Option CV} {ρ : Nat → Int} {loc : Lc} {s : St} {a : Act} {w : World} {o : Oper} {r : Out}

theorem binV_int (hO : OraOk ρ orb) {op : BinOp} {x y v : CV} (h : binV orb op x y = .ok v) (hx : (∃ n, x = .sym n) ∨ ∃ k n, x = .lit (.int k n)) {u1 u2 : Value} (h1 : V ρ loc x u1) (h2 : V ρ loc y u2) (t : TypeId) :
    ∃ v', VS ρ v v' ∧ (Go.binOp op t u1 u2).run P w = .ok v' w ∧ ∃ k n, u1 = .int k n := by
  have ora : orB orb op x y = some v → ∃ v', VS ρ v v' ∧ (Go.binOp op t u1 u2).run P w = .ok v' w ∧ ∃ k n, u1 = .int k n := fun h => by
    obtain ⟨k, p, q, v', e1, e2, e4, e3⟩ := hO.at h
    rw [ival_ok e1 h1, ival_ok e2 h2]
    exact ⟨v', e4, intB_ok e3 t, _, _, rfl⟩
  obtain ⟨n, rfl⟩ | ⟨k, n, rfl⟩ := hx
  · cases y <;> simp only [binV] at h <;> first | exact ora (R.of_ok.1 h) | cases h
  · cases y <;> simp only [binV] at h
    case lit b =>
      obtain ⟨v', e1, e2⟩ := R.bind_ok.1 h
      cases e2
      simp only [V] at h1 h2
      subst h1 h2
      exact ⟨v', .inl rfl, (litB_ok e1 (.inl ⟨_, _, rfl⟩)).1, _, _, rfl⟩
    case sym => exact ora (R.of_ok.1 h)
    case ptr =>
      obtain ⟨h3, _⟩ := R.if_ok.1 h
      cases h3
    all_goals cases h

theorem eqF_ok (hO : OraOk ρ orb) {t : TypeId} {x y : CV} {q : Bool} (h : eqF P orb t x y = .ok q) {u v : Value} (h1 : V ρ loc x u) (h2 : V ρ loc y v) (d : Nat) : (Op.equalIn (d + 1) t u v).run P w = .ok q w := by
  obtain ⟨i, e1, h⟩ := R.bind_ok.1 h
  have hu := (tiOf_ok e1).underlying w
  split at h
  · rename_i k hd
    rw [hd] at hu
    obtain ⟨r, e2, h⟩ := R.bind_ok.1 h
    have fin : ((∃ n, x = .sym n) ∨ ∃ k n, x = .lit (.int k n)) → (∃ k n, v = .int k n) → r = .lit (.bool q) → (Op.equalIn (d + 1) t u v).run P w = .ok q w := fun hx hv hr => by
      obtain ⟨v', e3, e4, k1, n1, rfl⟩ := binV_int (P := P) (w := w) hO e2 hx h1 h2 t
      obtain ⟨k2, n2, rfl⟩ := hv
      have e3 : v' = .bool q := by
        rw [hr] at e3
        rcases e3 with e3 | ⟨_, e3, _⟩
        · cases e3; rfl
        · cases e3
      subst e3
      have hk : k1 = k2 ∧ (n1 == n2) = q := by
        simp only [Go.binOp] at e4
        split at e4
        · simp [stuck] at e4
        · rename_i hne
          refine ⟨by simpa using hne, ?_⟩
          simpa [Op.intCmp] using e4
      obtain ⟨rfl, hk⟩ := hk
      rw [eqIn_int d hu, hk]
    split at h
    · cases h; exact fin (.inr ⟨_, _, rfl⟩) (by simp only [V] at h2; exact ⟨_, _, h2⟩) rfl
    · cases h; exact fin (.inl ⟨_, rfl⟩) (by simp only [V] at h2; exact ⟨_, _, h2⟩) rfl
    · cases h; exact fin (.inr ⟨_, _, rfl⟩) (by simp only [V] at h2; exact ⟨_, _, h2⟩) rfl
    · cases h; exact fin (.inl ⟨_, rfl⟩) (by simp only [V] at h2; exact ⟨_, _, h2⟩) rfl
    · cases h
  · rename_i hd
    rw [hd] at hu
    split at h
    · cases h
      simp only [V] at h1 h2
      subst h1 h2
      exact eqIn_string d hu _ _
    · cases h
  · rename_i hd
    rw [hd] at hu
    split at h
    · cases h
      simp only [V] at h1 h2
      subst h1 h2
      exact eqIn_bool d hu _ _
    · cases h
  · cases h

theorem run_part1 {t : TypeId} {i : TI} (hi : TOk P t i) (ha : i.agg = false) {xs : Array Value} {n : Nat} {v : Value} (hv : xs[n]? = some v) : (part t xs n).run P w = .ok v w := by
  unfold part
  rw [Sem.run_bind, hi.isAgg w, ha]
  simp [hv]

theorem drop_cons {α : Type} {l ws : List α} {n : Nat} {u : α} (h : l.drop n = u :: ws) : l[n]? = some u ∧ l.drop (n + 1) = ws := by
  have h1 : (l.drop n)[0]? = some u := by rw [h]; rfl
  rw [List.getElem?_drop] at h1
  refine ⟨by simpa using h1, ?_⟩
  have h2 : (l.drop n).drop 1 = ws := by rw [h]; rfl
  rw [List.drop_drop] at h2
  exact h2

theorem fields_loop (hO : OraOk ρ orb) {us vs : Array Value} (d : Nat) {q : Bool} : ∀ (l : List Field) (n : Nat) (xs ys : List CV), flatF P n l = .ok () → VL ρ loc xs (us.toList.drop n) → VL ρ loc ys (vs.toList.drop n) → eqCells P orb l xs ys = .ok q →
    (forIn l ((none, ()) : Option Bool × Unit) fun f __s => (
              if f.name ≠ "_" then do
                let __do_lift ← part f.type us f.offset
                let __do_lift_1 ← part f.type vs f.offset
                let __do_lift ← Op.equalIn (d + 1) f.type __do_lift __do_lift_1
                if (!__do_lift) = true then pure (ForInStep.done (some false, ()))
                  else pure (ForInStep.yield (none, ()))
              else pure (ForInStep.yield (none, ())) : Sem (ForInStep (Option Bool × Unit)))).run P w = .ok ((if q then none else some false), ()) w
  | [], n, xs, ys, hf, hx, hy, h => by
    cases xs with
    | nil => cases ys with
      | nil => cases h; rfl
      | cons _ _ => cases h
    | cons _ _ => cases h
  | f :: l, n, xs, ys, hf, hx, hy, h => by
    cases xs with
    | nil => cases h
    | cons c cs => cases ys with
     | nil => cases h
     | cons c' cs' =>
      obtain ⟨r, e1, h⟩ := R.bind_ok.1 h
      obtain ⟨i, f1, hf⟩ := R.bind_ok.1 hf
      obtain ⟨f2, hf⟩ := R.if_ok.1 hf
      simp only [Bool.and_eq_true] at f2
      obtain ⟨⟨f2, f3⟩, f4⟩ := f2
      have f2 : f.offset = n := Nat.eq_of_beq_eq_true f2
      have f3 : i.agg = false := by simpa using f3
      have f4 : f.name ≠ "_" := by simpa using f4
      simp only [VL] at hx hy
      obtain ⟨u, us', x1, x2, x3⟩ := hx
      obtain ⟨v, vs', y1, y2, y3⟩ := hy
      obtain ⟨x4, x5⟩ := drop_cons x1
      obtain ⟨y4, y5⟩ := drop_cons y1
      rw [← x5] at x3
      rw [← y5] at y3
      rw [Array.getElem?_toList] at x4 y4
      have ti := tiOf_ok f1
      have hb : ((if f.name ≠ "_" then do
                let __do_lift ← part f.type us f.offset
                let __do_lift_1 ← part f.type vs f.offset
                let __do_lift ← Op.equalIn (d + 1) f.type __do_lift __do_lift_1
                if (!__do_lift) = true then pure (ForInStep.done (some false, ()))
                  else pure (ForInStep.yield (none, ()))
              else pure (ForInStep.yield (none, ())) : Sem (ForInStep (Option Bool × Unit)))).run P w = .ok (if r then .yield (none, ()) else .done (some false, ())) w := by
        rw [if_pos f4, f2, Sem.run_bind, run_part1 ti f3 x4]
        simp only [Result.andThen_ok]
        rw [Sem.run_bind, run_part1 ti f3 y4]
        simp only [Result.andThen_ok]
        rw [Sem.run_bind, eqF_ok hO e1 x2 y2 d]
        simp only [Result.andThen_ok]
        cases r <;> rfl
      rw [List.forIn_cons, Sem.run_bind, hb]
      cases r with
      | true =>
        simp only [if_true, Result.andThen_ok]
        exact fields_loop hO d l (n + 1) cs cs' hf x3 y3 h
      | false => cases h; rfl

theorem run_struct (hO : OraOk ρ orb) {t : TypeId} {fs : Array Field} (hu : (underlying t).run P w = .ok (.struct fs) w) (hs : P.stoodInHeld t = false) (hf : flatF P 0 fs.toList = .ok ()) {xs ys : List CV} {us vs : Array Value}
    (hx : VL ρ loc xs us.toList) (hy : VL ρ loc ys vs.toList) {q : Bool} (h : eqCells P orb fs.toList xs ys = .ok q) (d : Nat) : (Op.equalIn (d + 1 + 1) t (.agg us) (.agg vs)).run P w = .ok q w := by
  unfold Op.equalIn
  rw [Sem.run_bind, hu]
  simp only [Result.andThen_ok]
  rw [Sem.run_bind, run_program]
  simp only [Result.andThen_ok, hs, Bool.false_eq_true, if_false]
  rw [Sem.run_bind, ← Array.forIn_toList, fields_loop hO d fs.toList 0 xs ys hf (by simpa using hx) (by simpa using hy) h]
  cases q <;> rfl

theorem o_binOp (hO : OraOk ρ orb) (hT : TmOk ρ loc s.tm a) (hM : Mem ρ loc s.hp.get w) {op : BinOp} {t t' : TypeId} {X Y : Operand} (ho : o.op = .binOp op t X Y t') (h : execO P orb s o.op = .ok r) :
    OpPost ρ loc s w r ((execOp a.eval o).run P w) := by
  rw [ho] at h
  obtain ⟨x, h1, g1⟩ := R.bind_ok.1 h
  obtain ⟨y, h2, g2⟩ := R.bind_ok.1 g1
  obtain ⟨z, h3, g3⟩ := R.bind_ok.1 g2
  clear h g1 g2
  have hx := evO_ok hT h1
  have hy := evO_ok hT h2
  have fin' : ∀ v', VS ρ z v' → (eqGuard op t X Y (a.eval X) (a.eval Y)).run P w = .ok () w → (Go.binOp op t (a.eval X) (a.eval Y)).run P w = .ok v' w → OpPost ρ loc s w r ((execOp a.eval o).run P w) := fun v' e e1 e2 => by
    refine OpPost.pure (v' := v') hM e.v g3 ?_
    simp only [execOp, ho]
    rw [run_val, Sem.run_bind, e1]
    simp only [Result.andThen_ok]
    rw [e2]
    rfl
  generalize a.eval X = u at hx fin'
  generalize a.eval Y = v at hy fin'
  have fin : ∀ v', z = .lit v' → (eqGuard op t X Y u v).run P w = .ok () w → (Go.binOp op t u v).run P w = .ok v' w → OpPost ρ loc s w r ((execOp a.eval o).run P w) := fun v' e => fin' v' (.inl e)
  have int : binV orb op x y = .ok z → ((∃ n, x = .sym n) ∨ ∃ k n, x = .lit (.int k n)) → OpPost ρ loc s w r ((execOp a.eval o).run P w) := fun hb hi => by
    obtain ⟨v', e1, e2, k, n, rfl⟩ := binV_int hO hb hi hx hy t
    exact fin' v' e1 (guard_plain (by simp) (by simp)) e2
  have typed : ∀ i, TOk P t i → eqT P i.desc x = .ok () → binV orb op x y = .ok z → OpPost ρ loc s w r ((execOp a.eval o).run P w) := fun i hi he hb => by
    have hu := hi.underlying w
    cases x with
    | lit p =>
      have hp : (∀ c, p ≠ .agg c) ∧ p ≠ .nilIface := by cases p <;> simp_all [eqT]
      simp only [V] at hx
      subst hx
      cases y with
      | lit q =>
        obtain ⟨v', e1, e2⟩ := R.bind_ok.1 hb
        cases e2
        simp only [V] at hy
        subst hy
        obtain ⟨e3, e4, e5⟩ := litB_ok (w := w) e1 (.inr (.inr ⟨i, hi, he⟩))
        exact fin v' rfl (guard_plain (fun hh => e5 hh.1) (fun hh => by obtain ⟨⟨c, hc⟩, _⟩ := hh; exact e4 c hc)) e3
      | ptr id off =>
        obtain ⟨h4, hb⟩ := R.if_ok.1 hb
        obtain ⟨v', e1, e2⟩ := R.bind_ok.1 hb
        cases e2
        simp only [V] at hy
        obtain ⟨pl, _, rfl⟩ := hy
        cases u with
        | pointer p =>
          cases p with
          | none =>
            simp only [eqT] at he
            split at he
            · rename_i e hd
              rw [hd] at hu
              exact fin v' rfl (guard_plain (by simp) (by simp)) (eq_run e1 (eqIn_ptr01 _ hu _) ⟨fun e => by subst e; rfl, fun e => by subst e; rfl⟩)
            · cases he
          | some p => simp [isNilP] at h4
        | _ => simp [isNilP] at h4
      | sym n =>
        obtain ⟨k', p', q', v', e1, e2, _, e3⟩ := hO.at (R.of_ok.1 hb)
        have := ival_ok (loc := loc) e1 (v := u) (by simp [V])
        subst this
        simp [eqT] at he
      | _ => cases hb
    | ptr id off =>
      simp only [eqT] at he
      split at he
      · rename_i e hd
        rw [hd] at hu
        obtain ⟨j, e3, he⟩ := R.bind_ok.1 he
        obtain ⟨e4, _⟩ := R.if_ok.1 he
        have e4 : j.size ≠ 0 := by
          intro e0
          rw [e0] at e4
          cases e4
        simp only [V] at hx
        obtain ⟨pl, p1, rfl⟩ := hx
        cases y with
        | lit q =>
          obtain ⟨h4, hb⟩ := R.if_ok.1 hb
          obtain ⟨v', e1, e2⟩ := R.bind_ok.1 hb
          cases e2
          simp only [V] at hy
          subst hy
          cases v with
          | pointer p =>
            cases p with
            | none => exact fin v' rfl (guard_plain (by simp) (by simp)) (eq_run e1 (eqIn_ptr10 _ hu _) ⟨fun e => by subst e; rfl, fun e => by subst e; rfl⟩)
            | some p => simp [isNilP] at h4
          | _ => simp [isNilP] at h4
        | ptr id' off' =>
          obtain ⟨h4, hb⟩ := R.if_ok.1 hb
          obtain ⟨v', e1, e2⟩ := R.bind_ok.1 hb
          cases e2
          have h4 := Nat.eq_of_beq_eq_true h4
          subst h4
          simp only [V] at hy
          obtain ⟨pl', p2, rfl⟩ := hy
          rw [p1] at p2; cases p2
          have hq : Nat.beq off off' = (pl.o + off == pl.o + off') := by
            rw [Bool.eq_iff_iff]
            simp
          rw [hq] at e1
          exact fin v' rfl (guard_plain (by simp) (by simp)) (eq_run e1 (eqIn_ptr11 _ hu (tiOf_ok e3) e4 _ _ _) ⟨fun e => by subst e; rfl, fun e => by subst e; rfl⟩)
        | _ => cases hb
      · cases he
    | sl id st off len cap ex =>
      simp only [eqT] at he
      split at he
      · rename_i e hd
        rw [hd] at hu
        obtain ⟨h4, hb⟩ := R.if_ok.1 hb
        obtain ⟨v', e1, e2⟩ := R.bind_ok.1 hb
        cases e2
        simp only [V] at hx
        obtain ⟨pl, ad, c, _, rfl, _⟩ := hx
        unfold isNilS at h4
        split at h4
        · simp only [V] at hy
          subst hy
          exact fin v' rfl (guard_plain (by simp) (by simp)) (eq_run e1 (eqIn_slice1 _ hu _ _ _ _ _) ⟨fun e => by subst e; rfl, fun e => by subst e; rfl⟩)
        · cases h4
      · cases he
    | ifc t' c =>
      simp only [eqT] at he
      split at he
      · rename_i e hd
        rw [hd] at hu
        obtain ⟨h4, hb⟩ := R.if_ok.1 hb
        obtain ⟨v', e1, e2⟩ := R.bind_ok.1 hb
        cases e2
        simp only [V] at hx
        obtain ⟨c', rfl, _⟩ := hx
        unfold isNilI at h4
        split at h4
        · simp only [V] at hy
          subst hy
          exact fin v' rfl (guard_plain (by simp) (by simp)) (eq_run e1 (eqIn_iface _ hu _ _) ⟨fun e => by subst e; rfl, fun e => by subst e; rfl⟩)
        · cases h4
      · cases he
    | _ => cases he
  unfold binA at h3
  split at h3
  · split at h3
    · rename_i xs ys
      obtain ⟨i, e1, h3⟩ := R.bind_ok.1 h3
      split at h3
      · rename_i fs hd
        obtain ⟨e2, h3⟩ := R.if_ok.1 h3
        obtain ⟨_, e3, h3⟩ := R.bind_ok.1 h3
        obtain ⟨q, e4, h3⟩ := R.bind_ok.1 h3
        obtain ⟨v', e5, h3⟩ := R.bind_ok.1 h3
        cases h3
        have hu := (tiOf_ok e1).underlying w
        rw [hd] at hu
        simp only [Bool.and_eq_true, Bool.not_eq_true'] at e2
        simp only [V] at hx hy
        obtain ⟨us, rfl, hx⟩ := hx
        obtain ⟨vs, rfl, hy⟩ := hy
        refine fin v' rfl ?_ (eq_run e5 (run_struct hO hu e2.2 e3 hx hy e4 9998) ⟨fun e => by subst e; rfl, fun e => by subst e; rfl⟩)
        unfold eqGuard
        rcases run_eqB e5 with ⟨rfl, _⟩ | ⟨rfl, _⟩ <;> simp [Sem.run_bind, e2.1]
      · cases h3
    · cases h3
  · exact int h3 (.inr ⟨_, _, rfl⟩)
  · rename_i b
    simp only [V] at hx
    subst hx
    cases y with
    | lit q =>
      obtain ⟨v', e1, e2⟩ := R.bind_ok.1 h3
      cases e2
      simp only [V] at hy
      subst hy
      obtain ⟨e3, e4, e5⟩ := litB_ok (t := t) (w := w) e1 (.inr (.inl ⟨_, rfl⟩))
      exact fin v' rfl (guard_plain (by simp) (by simp)) e3
    | sym n =>
      obtain ⟨k', p', q', v', e1, e2, _, e3⟩ := hO.at (R.of_ok.1 h3)
      simp [ival] at e1
    | ptr id off =>
      obtain ⟨h4, _⟩ := R.if_ok.1 h3
      cases h4
    | _ => cases h3
  · exact int h3 (.inl ⟨_, rfl⟩)
  · obtain ⟨i, e1, h3⟩ := R.bind_ok.1 h3
    obtain ⟨_, e2, h3⟩ := R.bind_ok.1 h3
    exact typed i (tiOf_ok e1) e2 h3

end

end Go.Cx
