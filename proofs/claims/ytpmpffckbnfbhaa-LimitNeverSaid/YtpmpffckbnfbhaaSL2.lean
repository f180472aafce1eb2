/- What data of the types of this seat's statements looks like, by a program of this session (genshape.py). -/
import Derived.Test.YtpmpffckbnfbhaaT
import Derived.Test.YtpmpffckbnfbhaaAb28
set_option linter.unusedSimpArgs false
set_option linter.unusedVariables false
namespace Go.Proofs.Ytpmpffckbnfbhaa.P2
open Go.Ab
theorem closed : closedT Try.prog [3, 55, 56] = true := by kernel_rfl
theorem c3 : Try.prog.cellsOf 3 = 1 := by kernel_rfl
theorem c55 : Try.prog.cellsOf 55 = 1 := by kernel_rfl
theorem c56 : Try.prog.cellsOf 56 = 5 := by kernel_rfl
theorem sh_bool {P : Program} {f : Nat} {t : TypeId} {xs : List PV} (hu : P.underlying t = some .bool) (h : shapeOk P f t xs) : ∃ b, xs = [.lit (.bool b)] ∧ True := by
  obtain ⟨b, rfl⟩ := shape_bool hu h; exact ⟨b, rfl, trivial⟩
structure Req5 where
  q0 : Int
  q1 : Int
  q2 : Int
  q3 : Int
  q4 : Int

def Req5.row (b : Req5) : List PV := [.lit (.int .i64 b.q0), .lit (.int .i64 b.q1), .lit (.int .i64 b.q2), .lit (.int .i64 b.q3), .lit (.int .i64 b.q4)]
def Req5.ok (b : Req5) : Prop := (Lit.int .i64 b.q0).wf = true ∧ (Lit.int .i64 b.q1).wf = true ∧ (Lit.int .i64 b.q2).wf = true ∧ (Lit.int .i64 b.q3).wf = true ∧ (Lit.int .i64 b.q4).wf = true
theorem Req5.row_length (b : Req5) : b.row.length = 5 := rfl
set_option maxRecDepth 100000 in
theorem sh56 {f : Nat} {xs : List PV} (h : shapeOk Try.prog f 56 xs) : ∃ x : Req5, xs = x.row ∧ x.ok := by
  obtain ⟨m, rfl, hl, hf⟩ := shape_array Try.underlying56 h
  match xs, hl with
  | [q0, q1, q2, q3, q4], _ =>
    obtain ⟨x0, e0, k0⟩ := shape_int Try.underlying3 (hf q0 (by simp))
    obtain ⟨x1, e1, k1⟩ := shape_int Try.underlying3 (hf q1 (by simp))
    obtain ⟨x2, e2, k2⟩ := shape_int Try.underlying3 (hf q2 (by simp))
    obtain ⟨x3, e3, k3⟩ := shape_int Try.underlying3 (hf q3 (by simp))
    obtain ⟨x4, e4, k4⟩ := shape_int Try.underlying3 (hf q4 (by simp))
    simp only [List.cons.injEq, and_true] at e0 e1 e2 e3 e4
    exact ⟨⟨x0, x1, x2, x3, x4⟩, by rw [e0, e1, e2, e3, e4]; rfl, k0, k1, k2, k3, k4⟩

theorem rows56 {f : Nat} : ∀ (rows : List (List PV)), (∀ r, r ∈ rows → r.length = Try.prog.cellsOf 56 ∧ shapeOk Try.prog f 56 r) → ∃ ls : List Req5, rows = ls.map (Req5.row) ∧ ∀ x, x ∈ ls → x.ok
  | [], _ => ⟨[], rfl, fun x hx => by cases hx⟩
  | r :: rows, h => by
    obtain ⟨x, rfl, hx⟩ := sh56 (h r List.mem_cons_self).2
    obtain ⟨ls, rfl, hl⟩ := rows56 rows fun r hr => h r (List.mem_cons_of_mem _ hr)
    exact ⟨x :: ls, rfl, fun y hy => by rcases List.mem_cons.1 hy with rfl | hy; exact hx; exact hl y hy⟩

theorem sh55 {f : Nat} {xs : List PV} (h : shapeOk Try.prog f 55 xs) : ∃ x : (List Req5), xs = [.sl (x.map Req5.row)] ∧ (x.length ≤ maxLen ∧ (∀ y, y ∈ x → y.ok) ∧ x.length * 40 ≤ 140737488351232) := by
  obtain ⟨n, rows, _, rfl, hmax, hfit, hr⟩ := shape_slice Try.underlying55 h
  obtain ⟨ls, rfl, hl⟩ := rows56 rows hr
  exact ⟨ls, rfl, by simpa using hmax, hl, by rw [show Try.prog.bytesOf 56 = 40 by kernel_rfl, reach_is] at hfit; simpa using hfit⟩
end Go.Proofs.Ytpmpffckbnfbhaa.P2
