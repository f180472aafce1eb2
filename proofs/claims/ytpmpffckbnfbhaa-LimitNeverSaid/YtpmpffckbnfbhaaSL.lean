/- What data of the types of this seat's statements looks like, by a program of this session (genshape.py). -/
import Derived.Test.YtpmpffckbnfbhaaT
import Derived.Test.YtpmpffckbnfbhaaAb28
set_option linter.unusedSimpArgs false
set_option linter.unusedVariables false
namespace Go.Proofs.Ytpmpffckbnfbhaa.P
open Go.Ab
theorem closed : closedT Try.prog [3, 41, 46] = true := by kernel_rfl
theorem c3 : Try.prog.cellsOf 3 = 1 := by kernel_rfl
theorem c41 : Try.prog.cellsOf 41 = 1 := by kernel_rfl
theorem c46 : Try.prog.cellsOf 46 = 5 := by kernel_rfl
theorem sh_bool {P : Program} {f : Nat} {t : TypeId} {xs : List PV} (hu : P.underlying t = some .bool) (h : shapeOk P f t xs) : ∃ b, xs = [.lit (.bool b)] ∧ True := by
  obtain ⟨b, rfl⟩ := shape_bool hu h; exact ⟨b, rfl, trivial⟩
structure LRow where
  ref : Int
  letters : Int
  cells : Int
  maxL : Int
  maxC : Int

def LRow.row (b : LRow) : List PV := [.lit (.int .i64 b.ref), .lit (.int .i64 b.letters), .lit (.int .i64 b.cells), .lit (.int .i64 b.maxL), .lit (.int .i64 b.maxC)]
def LRow.ok (b : LRow) : Prop := (Lit.int .i64 b.ref).wf = true ∧ (Lit.int .i64 b.letters).wf = true ∧ (Lit.int .i64 b.cells).wf = true ∧ (Lit.int .i64 b.maxL).wf = true ∧ (Lit.int .i64 b.maxC).wf = true
theorem LRow.row_length (b : LRow) : b.row.length = 5 := rfl
set_option maxRecDepth 100000 in
theorem sh46 {f : Nat} {xs : List PV} (h : shapeOk Try.prog f 46 xs) : ∃ x : LRow, xs = x.row ∧ x.ok := by
  obtain ⟨m, rfl, hl, hf⟩ := shape_struct Try.underlying46 h
  rw [c46] at hl
  match xs, hl with
  | [q0, q1, q2, q3, q4], _ =>
    have h0 := hf _ List.mem_cons_self
    have h1 := hf _ (List.mem_cons_of_mem _ List.mem_cons_self)
    have h2 := hf _ (List.mem_cons_of_mem _ (List.mem_cons_of_mem _ List.mem_cons_self))
    have h3 := hf _ (List.mem_cons_of_mem _ (List.mem_cons_of_mem _ (List.mem_cons_of_mem _ List.mem_cons_self)))
    have h4 := hf _ (List.mem_cons_of_mem _ (List.mem_cons_of_mem _ (List.mem_cons_of_mem _ (List.mem_cons_of_mem _ List.mem_cons_self))))
    simp only [c3, List.drop_zero, List.drop_succ_cons, List.take_succ_cons, List.take_zero] at h0 h1 h2 h3 h4
    obtain ⟨x0, e0, k0⟩ := shape_int Try.underlying3 h0
    obtain ⟨x1, e1, k1⟩ := shape_int Try.underlying3 h1
    obtain ⟨x2, e2, k2⟩ := shape_int Try.underlying3 h2
    obtain ⟨x3, e3, k3⟩ := shape_int Try.underlying3 h3
    obtain ⟨x4, e4, k4⟩ := shape_int Try.underlying3 h4
    simp only [List.cons.injEq, and_true] at e0 e1 e2 e3 e4
    exact ⟨⟨x0, x1, x2, x3, x4⟩, by rw [e0, e1, e2, e3, e4]; rfl, k0, k1, k2, k3, k4⟩

theorem rows46 {f : Nat} : ∀ (rows : List (List PV)), (∀ r, r ∈ rows → r.length = Try.prog.cellsOf 46 ∧ shapeOk Try.prog f 46 r) → ∃ ls : List LRow, rows = ls.map (LRow.row) ∧ ∀ x, x ∈ ls → x.ok
  | [], _ => ⟨[], rfl, fun x hx => by cases hx⟩
  | r :: rows, h => by
    obtain ⟨x, rfl, hx⟩ := sh46 (h r List.mem_cons_self).2
    obtain ⟨ls, rfl, hl⟩ := rows46 rows fun r hr => h r (List.mem_cons_of_mem _ hr)
    exact ⟨x :: ls, rfl, fun y hy => by rcases List.mem_cons.1 hy with rfl | hy; exact hx; exact hl y hy⟩

theorem sh41 {f : Nat} {xs : List PV} (h : shapeOk Try.prog f 41 xs) : ∃ x : (List LRow), xs = [.sl (x.map LRow.row)] ∧ (x.length ≤ maxLen ∧ (∀ y, y ∈ x → y.ok) ∧ x.length * 40 ≤ 140737488351232) := by
  obtain ⟨n, rows, _, rfl, hmax, hfit, hr⟩ := shape_slice Try.underlying41 h
  obtain ⟨ls, rfl, hl⟩ := rows46 rows hr
  exact ⟨ls, rfl, by simpa using hmax, hl, by rw [show Try.prog.bytesOf 46 = 40 by kernel_rfl, reach_is] at hfit; simpa using hfit⟩
end Go.Proofs.Ytpmpffckbnfbhaa.P
