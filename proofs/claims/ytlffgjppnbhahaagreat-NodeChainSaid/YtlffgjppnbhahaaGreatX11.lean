/- Operations on two values: each operation. No program is named here. -/
import Derived.Test.YtlffgjppnbhahaaGreatX10
set_option linter.unusedSimpArgs false
set_option linter.unusedVariables false
set_option maxHeartbeats 1000000
namespace Go.Cx

/-- A number. -/
def ival (ρ : Nat → Int) : CV → Option (IntKind × Int)
  | .lit (.int k n) => some (k, n)
  | .sym n => some (kd n, ρ n)
  | _ => none

/-- A value with no memory. -/
def VS (ρ : Nat → Int) (v : CV) (w : Value) : Prop := v = .lit w ∨ ∃ m, v = .sym m ∧ w = .int (kd m) (ρ m)

theorem VS.v {ρ : Nat → Int} {loc : Lc} {v : CV} {w : Value} (h : VS ρ v w) : V ρ loc v w := by
  rcases h with rfl | ⟨m, rfl, rfl⟩ <;> simp [V]

/-- What the oracle says is so. -/
def OraOk (ρ : Nat → Int) (orb : BinOp → CV → CV → Option CV) : Prop :=
  ∀ op x y v, orb op x y = some v → (op ≠ .andNot → ∃ k a b v', ival ρ x = some (k, a) ∧ ival ρ y = some (k, b) ∧ VS ρ v v' ∧ intB op k a b = .ok v') ∧
    (op = .andNot → ∃ n k m, x = .sym n ∧ y = .lit (.int k m) ∧ VS ρ v (.int k (k.wrap (ρ n))))

theorem OraOk.at {ρ : Nat → Int} {orb : BinOp → CV → CV → Option CV} (h : OraOk ρ orb) {op : BinOp} {x y v : CV} (hv : orB orb op x y = some v) : ∃ k a b v', ival ρ x = some (k, a) ∧ ival ρ y = some (k, b) ∧ VS ρ v v' ∧ intB op k a b = .ok v' := by
  unfold orB at hv
  split at hv
  · cases hv
  · rename_i hne
    exact (h op x y v hv).1 hne

theorem ival_ok {ρ : Nat → Int} {loc : Lc} {x : CV} {k : IntKind} {a : Int} (h : ival ρ x = some (k, a)) {v : Value} (hv : V ρ loc x v) : v = .int k a := by
  unfold ival at h
  split at h
  · cases h; simpa [V] using hv
  · cases h; simpa [V] using hv
  · cases h

section
variable {P : Program} {orb : BinOp → CV → CV → Option CV} {ρ : Nat → Int} {loc : Lc} {s : St} {a : Act} {w : World} {o : Oper} {r : Out}

theorem guard_plain {op : BinOp} {t : TypeId} {X Y : Operand} {u v : Value} (h1 : ¬ (u = .nilIface ∧ v = .nilIface)) (h2 : ¬ ((∃ c, u = .agg c) ∧ ∃ c, v = .agg c)) : (eqGuard op t X Y u v).run P w = .ok () w := by
  cases op <;> first | rfl | (cases u <;> cases v <;> first | rfl | exact (h1 ⟨rfl, rfl⟩).elim | exact (h2 ⟨⟨_, rfl⟩, ⟨_, rfl⟩⟩).elim)

theorem intB_ok {op : BinOp} {k : IntKind} {x y : Int} {v : Value} (h : intB op k x y = .ok v) (t : TypeId) : (Go.binOp op t (.int k x) (.int k y)).run P w = .ok v w := by
  cases op <;> simp only [intB] at h
  case quo =>
    obtain ⟨h1, h⟩ := R.if_ok.1 h
    cases h
    have : y ≠ 0 := by simpa using h1
    simp [Go.binOp, Op.intDiv, this]
  case rem =>
    obtain ⟨h1, h⟩ := R.if_ok.1 h
    cases h
    have : y ≠ 0 := by simpa using h1
    simp [Go.binOp, Op.intDiv, this]
  case and =>
    have h := R.of_ok.1 h
    simp only [Go.binOp]
    split at h
    · rename_i u e; cases h; simp [e] <;> rfl
    · cases h
  case or =>
    have h := R.of_ok.1 h
    simp only [Go.binOp]
    split at h
    · rename_i u e; cases h; simp [e] <;> rfl
    · cases h
  case xor =>
    have h := R.of_ok.1 h
    simp only [Go.binOp]
    split at h
    · rename_i u e; cases h; simp [e] <;> rfl
    · cases h
  all_goals first | (cases h; simp [Go.binOp, Op.intArith, Op.intCmp]; done) | cases h

theorem bytes_list (b : ByteArray) : b.toList = b.data.toList := by
  have key : ∀ (n i : Nat) (r : List UInt8), b.size - i = n → i ≤ b.size → ByteArray.toList.loop b i r = r.reverse ++ b.data.toList.drop i := by
    intro n
    induction n with
    | zero =>
      intro i r h1 h2
      unfold ByteArray.toList.loop
      rw [if_neg (by omega), List.drop_eq_nil_of_le (by simp; show b.size ≤ i; omega)]
      simp
    | succ n ih =>
      intro i r h1 h2
      unfold ByteArray.toList.loop
      have hlt : i < b.size := by omega
      rw [if_pos hlt, ih (i + 1) _ (by omega) (by omega)]
      have h3 : i < b.data.toList.length := by simpa using hlt
      rw [List.drop_eq_getElem_cons h3]
      have : b.get! i = b.data.toList[i] := by
        have h4 : i < b.data.size := hlt
        simp only [ByteArray.get!, Array.getElem_toList]
        exact getElem!_pos b.data i h4
      rw [this]
      simp
  unfold ByteArray.toList
  rw [key b.size 0 [] (by omega) (by omega)]
  simp

theorem run_eqB {op : BinOp} {q : Bool} {v : Value} (h : eqB op q = .ok v) : (op = .eql ∧ v = .bool q) ∨ (op = .neq ∧ v = .bool (!q)) := by
  cases op <;> simp only [eqB] at h <;> cases h <;> simp

theorem string_eq {op : BinOp} {x y : ByteArray} {v : Value} (h : eqB op (bytesEq x y) = .ok v) (t : TypeId) : (Go.binOp op t (.string x) (.string y)).run P w = .ok v w := by
  rcases run_eqB h with ⟨rfl, rfl⟩ | ⟨rfl, rfl⟩ <;> simp [Go.binOp, Op.stringOp, bytes_list, bytesEq]

theorem shift_ok {op : BinOp} {k k' : IntKind} {x y : Int} {v : Value} (h : shiftB op k x y = .ok v) (t : TypeId) : (Go.binOp op t (.int k x) (.int k' y)).run P w = .ok v w := by
  obtain ⟨h1, h⟩ := R.if_ok.1 h
  have h1 : ¬ y < 0 := by simpa using h1
  cases op <;> simp only at h <;> first | cases h; done | skip
  all_goals (cases h; simp [Go.binOp, Op.shift, h1])

section
variable {t : TypeId} (d : Nat)

theorem eqIn_bool (hu : (underlying t).run P w = .ok .bool w) (p q : Bool) : (Op.equalIn (d + 1) t (.bool p) (.bool q)).run P w = .ok (p == q) w := by
  unfold Op.equalIn; rw [Sem.run_bind, hu]; rfl
theorem eqIn_string (hu : (underlying t).run P w = .ok .string w) (p q : ByteArray) : (Op.equalIn (d + 1) t (.string p) (.string q)).run P w = .ok (p == q) w := by
  unfold Op.equalIn; rw [Sem.run_bind, hu]; rfl
theorem eqIn_int {k' : IntKind} (hu : (underlying t).run P w = .ok (.int k') w) (k : IntKind) (p q : Int) : (Op.equalIn (d + 1) t (.int k p) (.int k q)).run P w = .ok (p == q) w := by
  unfold Op.equalIn; rw [Sem.run_bind, hu]; simp
theorem eqIn_ptr00 {e : TypeId} (hu : (underlying t).run P w = .ok (.pointer e) w) : (Op.equalIn (d + 1) t (.pointer none) (.pointer none)).run P w = .ok true w := by
  unfold Op.equalIn; rw [Sem.run_bind, hu]; rfl
theorem eqIn_ptr01 {e : TypeId} (hu : (underlying t).run P w = .ok (.pointer e) w) (p : Addr) : (Op.equalIn (d + 1) t (.pointer none) (.pointer (some p))).run P w = .ok false w := by
  unfold Op.equalIn; rw [Sem.run_bind, hu]; rfl
theorem eqIn_ptr10 {e : TypeId} (hu : (underlying t).run P w = .ok (.pointer e) w) (p : Addr) : (Op.equalIn (d + 1) t (.pointer (some p)) (.pointer none)).run P w = .ok false w := by
  unfold Op.equalIn; rw [Sem.run_bind, hu]; rfl
theorem eqIn_ptr11 {e : TypeId} (hu : (underlying t).run P w = .ok (.pointer e) w) {i : TI} (hi : TOk P e i) (h0 : i.size ≠ 0) (b x y : Nat) : (Op.equalIn (d + 1) t (.pointer (some ⟨b, x, none⟩)) (.pointer (some ⟨b, y, none⟩))).run P w = .ok (x == y) w := by
  unfold Op.equalIn; rw [Sem.run_bind, hu]
  simp only [Result.andThen_ok]
  rw [Sem.run_bind, hi.sizeOf w]
  simp only [Result.andThen_ok]
  rw [if_pos h0]
  unfold sameAddr
  rw [if_pos (by simp)]
  have : ((⟨b, x, none⟩ : Addr) == ⟨b, y, none⟩) = (x == y) := by
    rw [Bool.eq_iff_iff]; simp
  rw [this]; rfl
theorem eqIn_slice0 {e : TypeId} (hu : (underlying t).run P w = .ok (.slice e) w) (l c l' c' : Nat) : (Op.equalIn (d + 1) t (.slice none l c) (.slice none l' c')).run P w = .ok true w := by
  unfold Op.equalIn; rw [Sem.run_bind, hu]; rfl
theorem eqIn_slice1 {e : TypeId} (hu : (underlying t).run P w = .ok (.slice e) w) (p : Addr) (l c l' c' : Nat) : (Op.equalIn (d + 1) t (.slice (some p) l c) (.slice none l' c')).run P w = .ok false w := by
  unfold Op.equalIn; rw [Sem.run_bind, hu]; rfl
theorem eqIn_iface {e} (hu : (underlying t).run P w = .ok (.interface e) w) (t' : TypeId) (v : Value) : (Op.equalIn (d + 1) t (.iface t' v) .nilIface).run P w = .ok false w := by
  unfold Op.equalIn; rw [Sem.run_bind, hu]; rfl

/-- Equal or not. -/
theorem eq_run {op : BinOp} {q : Bool} {v x y : Value} (h : eqB op q = .ok v) (he : (Op.equalIn (9999 + 1) t x y).run P w = .ok q w) (hne : (op = .eql → Go.binOp op t x y = (do pure (.bool (← Op.equal t x y)))) ∧ (op = .neq → Go.binOp op t x y = (do pure (.bool (!(← Op.equal t x y)))))) :
    (Go.binOp op t x y).run P w = .ok v w := by
  have he : (Op.equal t x y).run P w = .ok q w := he
  rcases run_eqB h with ⟨rfl, rfl⟩ | ⟨rfl, rfl⟩
  · rw [hne.1 rfl, Sem.run_bind, he]; rfl
  · rw [hne.2 rfl, Sem.run_bind, he]; rfl

end

/-- Two values at a type, by the table of what 'equal' answers. -/
theorem litB_ok {op : BinOp} {x y v : Value} (h : litB op x y = .ok v) {t : TypeId} (ht : (∃ k n, x = .int k n) ∨ (∃ b, x = .string b) ∨ ∃ i, TOk P t i ∧ eqT P i.desc (.lit x) = .ok ()) :
    (Go.binOp op t x y).run P w = .ok v w ∧ (∀ c, x ≠ .agg c) ∧ x ≠ .nilIface := by
  unfold litB at h
  split at h
  · rename_i k n
    split at h
    · rename_i k' m
      refine ⟨?_, by simp, by simp⟩
      cases hs : isShift op with
      | true => rw [hs, cond_true] at h; exact shift_ok h t
      | false =>
        rw [hs, cond_false] at h
        obtain ⟨h1, h2⟩ := R.if_ok.1 h
        clear h
        have h := h2
        have : k = k' := by simpa using h1
        subst this
        exact intB_ok h t
    · cases h
  · split at h
    · exact ⟨string_eq h t, by simp, by simp⟩
    · cases h
  · rename_i p
    split at h
    · rename_i q
      refine ⟨?_, by simp, by simp⟩
      rcases ht with ⟨k, n, e⟩ | ⟨b, e⟩ | ⟨i, hi, he⟩
      · cases e
      · cases e
      · have hu := hi.underlying w
        simp only [eqT] at he
        split at he
        · rename_i hd
          rw [hd] at hu
          exact eq_run h (eqIn_bool _ hu p q) ⟨fun e => by subst e; rfl, fun e => by subst e; rfl⟩
        · cases he
    · cases h
  · rename_i y
    split at h
    · refine ⟨?_, by simp, by simp⟩
      rcases ht with ⟨k, n, e⟩ | ⟨b, e⟩ | ⟨i, hi, he⟩
      · cases e
      · cases e
      · have hu := hi.underlying w
        simp only [eqT] at he
        split at he
        · rename_i hd
          rw [hd] at hu
          exact eq_run h (eqIn_ptr00 _ hu) ⟨fun e => by subst e; rfl, fun e => by subst e; rfl⟩
        · cases he
    · cases h
  · rename_i y
    split at h
    · refine ⟨?_, by simp, by simp⟩
      rcases ht with ⟨k, n, e⟩ | ⟨b, e⟩ | ⟨i, hi, he⟩
      · cases e
      · cases e
      · have hu := hi.underlying w
        simp only [eqT] at he
        split at he
        · rename_i hd
          rw [hd] at hu
          exact eq_run h (eqIn_slice0 _ hu _ _ _ _) ⟨fun e => by subst e; rfl, fun e => by subst e; rfl⟩
        · cases he
    · cases h
  · cases h
  · cases h

end

end Go.Cx
