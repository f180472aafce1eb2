/- What data of the types of this seat's statements looks like, by a program of this session (genshape.py). -/
import Derived.Test.YtfjfiemcdnicoaaT
import Derived.Test.YtfjfiemcdnicoaaAb28
set_option linter.unusedSimpArgs false
set_option linter.unusedVariables false
namespace Go.Proofs.Ytfjfiemcdnicoaa.P2
open Go.Ab
theorem closed : closedT Try.prog [3, 64, 66] = true := by kernel_rfl
theorem c3 : Try.prog.cellsOf 3 = 1 := by kernel_rfl
theorem c64 : Try.prog.cellsOf 64 = 1 := by kernel_rfl
theorem c66 : Try.prog.cellsOf 66 = 2 := by kernel_rfl
theorem sh_bool {P : Program} {f : Nat} {t : TypeId} {xs : List PV} (hu : P.underlying t = some .bool) (h : shapeOk P f t xs) : ∃ b, xs = [.lit (.bool b)] ∧ True := by
  obtain ⟨b, rfl⟩ := shape_bool hu h; exact ⟨b, rfl, trivial⟩
structure Pair where
  a : Int
  b : Int

def Pair.row (b : Pair) : List PV := [.lit (.int .i64 b.a), .lit (.int .i64 b.b)]
def Pair.ok (b : Pair) : Prop := (Lit.int .i64 b.a).wf = true ∧ (Lit.int .i64 b.b).wf = true
theorem Pair.row_length (b : Pair) : b.row.length = 2 := rfl
set_option maxRecDepth 100000 in
theorem sh66 {f : Nat} {xs : List PV} (h : shapeOk Try.prog f 66 xs) : ∃ x : Pair, xs = x.row ∧ x.ok := by
  obtain ⟨m, rfl, hl, hf⟩ := shape_array Try.underlying66 h
  match xs, hl with
  | [q0, q1], _ =>
    obtain ⟨x0, e0, k0⟩ := shape_int Try.underlying3 (hf q0 (by simp))
    obtain ⟨x1, e1, k1⟩ := shape_int Try.underlying3 (hf q1 (by simp))
    simp only [List.cons.injEq, and_true] at e0 e1
    exact ⟨⟨x0, x1⟩, by rw [e0, e1]; rfl, k0, k1⟩

theorem rows66 {f : Nat} : ∀ (rows : List (List PV)), (∀ r, r ∈ rows → r.length = Try.prog.cellsOf 66 ∧ shapeOk Try.prog f 66 r) → ∃ ls : List Pair, rows = ls.map (Pair.row) ∧ ∀ x, x ∈ ls → x.ok
  | [], _ => ⟨[], rfl, fun x hx => by cases hx⟩
  | r :: rows, h => by
    obtain ⟨x, rfl, hx⟩ := sh66 (h r List.mem_cons_self).2
    obtain ⟨ls, rfl, hl⟩ := rows66 rows fun r hr => h r (List.mem_cons_of_mem _ hr)
    exact ⟨x :: ls, rfl, fun y hy => by rcases List.mem_cons.1 hy with rfl | hy; exact hx; exact hl y hy⟩

theorem sh64 {f : Nat} {xs : List PV} (h : shapeOk Try.prog f 64 xs) : ∃ x : (List Pair), xs = [.sl (x.map Pair.row)] ∧ (x.length ≤ maxLen ∧ (∀ y, y ∈ x → y.ok) ∧ x.length * 16 ≤ 140737488351232) := by
  obtain ⟨n, rows, _, rfl, hmax, hfit, hr⟩ := shape_slice Try.underlying64 h
  obtain ⟨ls, rfl, hl⟩ := rows66 rows hr
  exact ⟨ls, rfl, by simpa using hmax, hl, by rw [show Try.prog.bytesOf 66 = 16 by kernel_rfl, reach_is] at hfit; simpa using hfit⟩
end Go.Proofs.Ytfjfiemcdnicoaa.P2
