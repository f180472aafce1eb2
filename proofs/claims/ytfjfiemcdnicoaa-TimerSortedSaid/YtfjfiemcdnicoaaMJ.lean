/- What data of the types of this seat's statements looks like, by a program of this session (genshape.py). -/
import Derived.Test.YtfjfiemcdnicoaaT
import Derived.Test.YtfjfiemcdnicoaaAb28
set_option linter.unusedSimpArgs false
set_option linter.unusedVariables false
namespace Go.Proofs.Ytfjfiemcdnicoaa.P
open Go.Ab
theorem closed : closedT Try.prog [3, 53, 55, 61] = true := by kernel_rfl
theorem c3 : Try.prog.cellsOf 3 = 1 := by kernel_rfl
theorem c53 : Try.prog.cellsOf 53 = 1 := by kernel_rfl
theorem c55 : Try.prog.cellsOf 55 = 2 := by kernel_rfl
theorem c61 : Try.prog.cellsOf 61 = 2 := by kernel_rfl
theorem sh_bool {P : Program} {f : Nat} {t : TypeId} {xs : List PV} (hu : P.underlying t = some .bool) (h : shapeOk P f t xs) : ∃ b, xs = [.lit (.bool b)] ∧ True := by
  obtain ⟨b, rfl⟩ := shape_bool hu h; exact ⟨b, rfl, trivial⟩
structure Due where
  tm : Int
  id : Int

def Due.row (b : Due) : List PV := [.lit (.int .i64 b.tm), .lit (.int .i64 b.id)]
def Due.ok (b : Due) : Prop := (Lit.int .i64 b.tm).wf = true ∧ (Lit.int .i64 b.id).wf = true
theorem Due.row_length (b : Due) : b.row.length = 2 := rfl
set_option maxRecDepth 100000 in
theorem sh61 {f : Nat} {xs : List PV} (h : shapeOk Try.prog f 61 xs) : ∃ x : Due, xs = x.row ∧ x.ok := by
  obtain ⟨m, rfl, hl, hf⟩ := shape_struct Try.underlying61 h
  rw [c61] at hl
  match xs, hl with
  | [q0, q1], _ =>
    have h0 := hf _ List.mem_cons_self
    have h1 := hf _ (List.mem_cons_of_mem _ List.mem_cons_self)
    simp only [c3, List.drop_zero, List.drop_succ_cons, List.take_succ_cons, List.take_zero] at h0 h1
    obtain ⟨x0, e0, k0⟩ := shape_int Try.underlying3 h0
    obtain ⟨x1, e1, k1⟩ := shape_int Try.underlying3 h1
    simp only [List.cons.injEq, and_true] at e0 e1
    exact ⟨⟨x0, x1⟩, by rw [e0, e1]; rfl, k0, k1⟩

theorem rows61 {f : Nat} : ∀ (rows : List (List PV)), (∀ r, r ∈ rows → r.length = Try.prog.cellsOf 61 ∧ shapeOk Try.prog f 61 r) → ∃ ls : List Due, rows = ls.map (Due.row) ∧ ∀ x, x ∈ ls → x.ok
  | [], _ => ⟨[], rfl, fun x hx => by cases hx⟩
  | r :: rows, h => by
    obtain ⟨x, rfl, hx⟩ := sh61 (h r List.mem_cons_self).2
    obtain ⟨ls, rfl, hl⟩ := rows61 rows fun r hr => h r (List.mem_cons_of_mem _ hr)
    exact ⟨x :: ls, rfl, fun y hy => by rcases List.mem_cons.1 hy with rfl | hy; exact hx; exact hl y hy⟩

theorem sh53 {f : Nat} {xs : List PV} (h : shapeOk Try.prog f 53 xs) : ∃ x : (List Due), xs = [.sl (x.map Due.row)] ∧ (x.length ≤ maxLen ∧ (∀ y, y ∈ x → y.ok) ∧ x.length * 16 ≤ 140737488351232) := by
  obtain ⟨n, rows, _, rfl, hmax, hfit, hr⟩ := shape_slice Try.underlying53 h
  obtain ⟨ls, rfl, hl⟩ := rows61 rows hr
  exact ⟨ls, rfl, by simpa using hmax, hl, by rw [show Try.prog.bytesOf 61 = 16 by kernel_rfl, reach_is] at hfit; simpa using hfit⟩

structure Timers where
  now : Int
  dues : List Due

def Timers.row (b : Timers) : List PV := [.lit (.int .i64 b.now), .sl (b.dues.map Due.row)]
def Timers.ok (b : Timers) : Prop := (Lit.int .i64 b.now).wf = true ∧ (b.dues.length ≤ maxLen ∧ (∀ y, y ∈ b.dues → y.ok) ∧ b.dues.length * 16 ≤ 140737488351232)
theorem Timers.row_length (b : Timers) : b.row.length = 2 := rfl
set_option maxRecDepth 100000 in
theorem sh55 {f : Nat} {xs : List PV} (h : shapeOk Try.prog f 55 xs) : ∃ x : Timers, xs = x.row ∧ x.ok := by
  obtain ⟨m, rfl, hl, hf⟩ := shape_struct Try.underlying55 h
  rw [c55] at hl
  match xs, hl with
  | [q0, q1], _ =>
    have h0 := hf _ List.mem_cons_self
    have h1 := hf _ (List.mem_cons_of_mem _ List.mem_cons_self)
    simp only [c3, c53, List.drop_zero, List.drop_succ_cons, List.take_succ_cons, List.take_zero] at h0 h1
    obtain ⟨x0, e0, k0⟩ := shape_int Try.underlying3 h0
    obtain ⟨x1, e1, k1⟩ := sh53 h1
    simp only [List.cons.injEq, and_true] at e0 e1
    exact ⟨⟨x0, x1⟩, by rw [e0, e1]; rfl, k0, k1⟩
end Go.Proofs.Ytfjfiemcdnicoaa.P
