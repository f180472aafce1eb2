/- What data of the types of this seat's statements looks like, by a program of this session (genshape.py). -/
import Derived.Test.YtjaghpkmbgcabaaT
import Derived.Test.YtjaghpkmbgcabaaAb26
set_option linter.unusedSimpArgs false
set_option linter.unusedVariables false
namespace Go.Proofs.Ytjaghpkmbgcabaa.P
open Go.Ab
theorem closed : closedT Try.prog [3, 22, 29] = true := by kernel_rfl
theorem c3 : Try.prog.cellsOf 3 = 1 := by kernel_rfl
theorem c22 : Try.prog.cellsOf 22 = 1 := by kernel_rfl
theorem c29 : Try.prog.cellsOf 29 = 2 := by kernel_rfl
theorem sh_bool {P : Program} {f : Nat} {t : TypeId} {xs : List PV} (hu : P.underlying t = some .bool) (h : shapeOk P f t xs) : ∃ b, xs = [.lit (.bool b)] ∧ True := by
  obtain ⟨b, rfl⟩ := shape_bool hu h; exact ⟨b, rfl, trivial⟩
structure Job where
  id : Int
  steps : Int

def Job.row (b : Job) : List PV := [.lit (.int .i64 b.id), .lit (.int .i64 b.steps)]
def Job.ok (b : Job) : Prop := (Lit.int .i64 b.id).wf = true ∧ (Lit.int .i64 b.steps).wf = true
theorem Job.row_length (b : Job) : b.row.length = 2 := rfl
set_option maxRecDepth 100000 in
theorem sh29 {f : Nat} {xs : List PV} (h : shapeOk Try.prog f 29 xs) : ∃ x : Job, xs = x.row ∧ x.ok := by
  obtain ⟨m, rfl, hl, hf⟩ := shape_struct Try.underlying29 h
  rw [c29] at hl
  match xs, hl with
  | [q0, q1], _ =>
    have h0 := hf _ List.mem_cons_self
    have h1 := hf _ (List.mem_cons_of_mem _ List.mem_cons_self)
    simp only [c3, List.drop_zero, List.drop_succ_cons, List.take_succ_cons, List.take_zero] at h0 h1
    obtain ⟨x0, e0, k0⟩ := shape_int Try.underlying3 h0
    obtain ⟨x1, e1, k1⟩ := shape_int Try.underlying3 h1
    simp only [List.cons.injEq, and_true] at e0 e1
    exact ⟨⟨x0, x1⟩, by rw [e0, e1]; rfl, k0, k1⟩

theorem rows29 {f : Nat} : ∀ (rows : List (List PV)), (∀ r, r ∈ rows → r.length = Try.prog.cellsOf 29 ∧ shapeOk Try.prog f 29 r) → ∃ ls : List Job, rows = ls.map (Job.row) ∧ ∀ x, x ∈ ls → x.ok
  | [], _ => ⟨[], rfl, fun x hx => by cases hx⟩
  | r :: rows, h => by
    obtain ⟨x, rfl, hx⟩ := sh29 (h r List.mem_cons_self).2
    obtain ⟨ls, rfl, hl⟩ := rows29 rows fun r hr => h r (List.mem_cons_of_mem _ hr)
    exact ⟨x :: ls, rfl, fun y hy => by rcases List.mem_cons.1 hy with rfl | hy; exact hx; exact hl y hy⟩

theorem sh22 {f : Nat} {xs : List PV} (h : shapeOk Try.prog f 22 xs) : ∃ x : (List Job), xs = [.sl (x.map Job.row)] ∧ (x.length ≤ maxLen ∧ ∀ y, y ∈ x → y.ok) := by
  obtain ⟨n, rows, _, rfl, hmax, hr⟩ := shape_slice Try.underlying22 h
  obtain ⟨ls, rfl, hl⟩ := rows29 rows hr
  exact ⟨ls, rfl, by simpa using hmax, hl⟩
end Go.Proofs.Ytjaghpkmbgcabaa.P
