/- Loads, stores, addresses, slices: each operation. No program is named here. -/
import Derived.Test.YtlffgjppnbhahaaGreatX6
set_option linter.unusedSimpArgs false
set_option linter.unusedVariables false
set_option maxHeartbeats 1000000
namespace Go.Cx

section
variable {P : Program} {orb : BinOp → CV → CV → Option CV} {ρ : Nat → Int} {loc : Lc} {s : St} {a : Act} {w : World} {o : Oper} {r : Out}

theorem o_load (hT : TmOk ρ loc s.tm a) (hM : Mem ρ loc s.hp.get w) {t : TypeId} {x : Operand} (ho : o.op = .load t x) (h : execO P orb s o.op = .ok r) : OpPost ρ loc s w r ((execOp a.eval o).run P w) := by
  rw [ho] at h
  obtain ⟨i, h1, h⟩ := R.bind_ok.1 h
  obtain ⟨v, h2, h⟩ := R.bind_ok.1 h
  have hx := evO_ok hT h2
  split at h
  · obtain ⟨xs, h3, h⟩ := R.bind_ok.1 h
    obtain ⟨u, h4, h⟩ := R.bind_ok.1 h
    simp only [V] at hx
    obtain ⟨p, hp, hx⟩ := hx
    obtain ⟨q, hq, hh⟩ := hM.cells h3
    rw [hp] at hq; cases hq
    obtain ⟨u', h5, h6⟩ := loadV_ok (P := P) (tiOf_ok h1) hh h4
    refine OpPost.pure hM h6 h ?_
    simp only [execOp, ho, Instr.loadAt, hx, Instr.sureAddr]
    rw [run_val]
    simp only [pure_bind]
    rw [h5]
    rfl
  · cases h

theorem o_store (hT : TmOk ρ loc s.tm a) (hM : Mem ρ loc s.hp.get w) {t : TypeId} {x y : Operand} (ho : o.op = .store t x y) (h : execO P orb s o.op = .ok r) : OpPost ρ loc s w r ((execOp a.eval o).run P w) := by
  rw [ho] at h
  obtain ⟨i, h1, h⟩ := R.bind_ok.1 h
  obtain ⟨v, h2, h⟩ := R.bind_ok.1 h
  obtain ⟨u, h3, h⟩ := R.bind_ok.1 h
  have hx := evO_ok hT h2
  have hy := VL.cells (evO_ok hT h3)
  split at h
  · obtain ⟨h4, h⟩ := R.if_ok.1 h
    obtain ⟨hp, h5, h⟩ := R.bind_ok.1 h
    cases h
    simp only [V] at hx
    obtain ⟨p, hp', hx⟩ := hx
    obtain ⟨w', h6, h7⟩ := wr_ok (P := P) (nx := s.nx) hM h5 hp' hy
    intro _
    refine ⟨undef, w', loc, .inr ⟨?_, rfl⟩, by simp [none', V, undef], h7⟩
    have hsz : (a.eval y).cells.size = i.size := by
      have := hy.length
      have h8 := Nat.eq_of_beq_eq_true h4
      simp at this
      omega
    simp only [execOp, ho, Instr.storeAt, hx, Instr.sureAddr, pure_bind, storeVar]
    rw [Sem.run_bind, Sem.run_bind, (tiOf_ok h1).sizeOf w]
    simp only [Result.andThen_ok]
    rw [if_neg (by simpa using hsz), h6]
    rfl
  · cases h

theorem fieldOff_ok {i : TI} {f k : Nat} (h : fieldOff P i f = .ok k) : ∃ (fs : Array Field) (x : Field) (j : TI), i.desc = .struct fs ∧ fs[f]? = some x ∧ TOk P x.type j ∧ j.size ≠ 0 ∧ x.offset = k := by
  unfold fieldOff at h
  split at h
  · rename_i fs hd
    obtain ⟨x, h1, h⟩ := R.bind_ok.1 h
    obtain ⟨j, h2, h⟩ := R.bind_ok.1 h
    obtain ⟨h3, h⟩ := R.if_ok.1 h
    cases h
    refine ⟨fs, x, j, hd, R.of_ok.1 h1, tiOf_ok h2, ?_, rfl⟩
    intro e
    rw [e] at h3
    cases h3
  · cases h

theorem o_fieldAddr (hT : TmOk ρ loc s.tm a) (hM : Mem ρ loc s.hp.get w) {t : TypeId} {x : Operand} {f : Nat} (ho : o.op = .fieldAddr t x f) (h : execO P orb s o.op = .ok r) : OpPost ρ loc s w r ((execOp a.eval o).run P w) := by
  rw [ho] at h
  obtain ⟨i, h1, h⟩ := R.bind_ok.1 h
  obtain ⟨v, h2, h⟩ := R.bind_ok.1 h
  have hx := evO_ok hT h2
  split at h
  · rename_i id off
    obtain ⟨k, h3, h⟩ := R.bind_ok.1 h
    obtain ⟨fs, fd, j, h4, h5, h6, h7, h8⟩ := fieldOff_ok h3
    simp only [V] at hx
    obtain ⟨p, hp, hx⟩ := hx
    refine OpPost.pure (v' := .pointer (some ⟨p.b, p.o + (off + k), none⟩)) hM (by simp only [V]; exact ⟨p, hp, rfl⟩) h ?_
    have hu := (tiOf_ok h1).underlying w
    rw [h4] at hu
    simp only [execOp, ho, Instr.fieldAt, hx, Instr.sureAddr]
    rw [run_val, Sem.run_bind, hu]
    simp only [Result.andThen_ok, h5, pure_bind, fieldPlace]
    rw [Sem.run_bind, Sem.run_bind, h6.sizeOf w]
    simp only [Result.andThen_ok]
    rw [if_neg h7, addr_add, h8, Nat.add_assoc]
    rfl
  · cases h

theorem elemI_ok {t : TypeId} {j : TI} (h : elemI P t = .ok j) : ∃ (i : TI) (e : TypeId), TOk P t i ∧ i.desc = .slice e ∧ TOk P e j := by
  unfold elemI at h
  obtain ⟨i, h1, h⟩ := R.bind_ok.1 h
  obtain ⟨e, h2, h⟩ := R.bind_ok.1 h
  refine ⟨i, e, tiOf_ok h1, ?_, tiOf_ok h⟩
  unfold elemD at h2
  split at h2
  · rename_i hd; cases h2; exact hd
  · cases h2

theorem asNat_ok {v : CV} {n : Nat} (h : asNat v = .ok n) : ∃ k, v = .lit (.int k (.ofNat n)) := by
  unfold asNat at h
  split at h
  · cases h; exact ⟨_, rfl⟩
  · cases h

theorem o_indexAddr (hT : TmOk ρ loc s.tm a) (hM : Mem ρ loc s.hp.get w) {t : TypeId} {x y : Operand} (ho : o.op = .indexAddr t x y) (h : execO P orb s o.op = .ok r) : OpPost ρ loc s w r ((execOp a.eval o).run P w) := by
  rw [ho] at h
  obtain ⟨j, h1, h⟩ := R.bind_ok.1 h
  obtain ⟨v, h2, h⟩ := R.bind_ok.1 h
  obtain ⟨u, h3, h⟩ := R.bind_ok.1 h
  obtain ⟨n, h4, h⟩ := R.bind_ok.1 h
  have hx := evO_ok hT h2
  have hy := evO_ok hT h3
  obtain ⟨k, rfl⟩ := asNat_ok h4
  cases v with
  | sl id st off len cap ex =>
    obtain ⟨h5, h⟩ := R.if_ok.1 h
    rw [Bool.and_eq_true] at h5
    have hlt : n < len := Nat.le_of_ble_eq_true h5.1
    have hst : st = j.size := Nat.eq_of_beq_eq_true h5.2
    obtain ⟨i, e, h6, h7, h8⟩ := elemI_ok h1
    simp only [V] at hx hy
    obtain ⟨p, ad, c, hp, hx, hc1, hc2, hc3, hc4⟩ := hx
    have had : ad = ⟨p.b, p.o + off, none⟩ := by
      rcases hc4 with h' | h'
      · omega
      · exact h'.1
    refine OpPost.pure (v' := .pointer (some ⟨p.b, p.o + (off + n * st), none⟩)) hM (by simp only [V]; exact ⟨p, hp, rfl⟩) h ?_
    have hu := h6.underlying w
    rw [h7] at hu
    simp only [execOp, ho, Instr.indexAt, hx, hy, asIntOf, pure_bind]
    rw [run_val, Sem.run_bind, hu]
    simp only [Result.andThen_ok, pure_bind]
    rw [Sem.run_bind, hu]
    simp only [Result.andThen_ok]
    rw [if_pos (by constructor <;> simp; exact hlt), Sem.run_bind, h8.sizeOf w]
    simp only [Result.andThen_ok, had, addr_add, ← hst]
    rw [Nat.add_assoc]
    rfl
  | _ => cases h

end

end Go.Cx
