/- What data of the types of this seat's statements looks like, by a program of this session (genshape.py). -/
import Derived.Test.YtfjfiemcdnicoaaT
import Derived.Test.YtfjfiemcdnicoaaAb28
set_option linter.unusedSimpArgs false
set_option linter.unusedVariables false
set_option maxHeartbeats 1000000
namespace Go.Proofs.Ytfjfiemcdnicoaa.P
open Go.Ab
theorem closed : closedT Try.prog [3, 31, 37, 39] = true := by kernel_rfl
theorem c3 : Try.prog.cellsOf 3 = 1 := by kernel_rfl
theorem c31 : Try.prog.cellsOf 31 = 1 := by kernel_rfl
theorem c37 : Try.prog.cellsOf 37 = 1 := by kernel_rfl
theorem c39 : Try.prog.cellsOf 39 = 3 := by kernel_rfl
theorem sh_bool {P : Program} {f : Nat} {t : TypeId} {xs : List PV} (hu : P.underlying t = some .bool) (h : shapeOk P f t xs) : ∃ b, xs = [.lit (.bool b)] ∧ True := by
  obtain ⟨b, rfl⟩ := shape_bool hu h; exact ⟨b, rfl, trivial⟩
theorem rows3 {f : Nat} : ∀ (rows : List (List PV)), (∀ r, r ∈ rows → r.length = Try.prog.cellsOf 3 ∧ shapeOk Try.prog f 3 r) → ∃ ls : List Int, rows = ls.map (fun x => [.lit (.int .i64 x)]) ∧ ∀ x, x ∈ ls → (Lit.int .i64 x).wf = true
  | [], _ => ⟨[], rfl, fun x hx => by cases hx⟩
  | r :: rows, h => by
    obtain ⟨x, rfl, hx⟩ := shape_int Try.underlying3 (h r List.mem_cons_self).2
    obtain ⟨ls, rfl, hl⟩ := rows3 rows fun r hr => h r (List.mem_cons_of_mem _ hr)
    exact ⟨x :: ls, rfl, fun y hy => by rcases List.mem_cons.1 hy with rfl | hy; exact hx; exact hl y hy⟩

theorem sh37 {f : Nat} {xs : List PV} (h : shapeOk Try.prog f 37 xs) : ∃ x : (List Int), xs = [.sl (x.map fun x => [.lit (.int .i64 x)])] ∧ (x.length ≤ maxLen ∧ (∀ y, y ∈ x → (Lit.int .i64 y).wf = true) ∧ x.length * 8 ≤ 140737488351232) := by
  obtain ⟨n, rows, _, rfl, hmax, hfit, hr⟩ := shape_slice Try.underlying37 h
  obtain ⟨ls, rfl, hl⟩ := rows3 rows hr
  exact ⟨ls, rfl, by simpa using hmax, hl, by rw [show Try.prog.bytesOf 3 = 8 by kernel_rfl, reach_is] at hfit; simpa using hfit⟩

structure Row where
  ref : Int
  watches : List Int
  links : List Int

def Row.row (b : Row) : List PV := [.lit (.int .i64 b.ref), .sl (b.watches.map fun x => [.lit (.int .i64 x)]), .sl (b.links.map fun x => [.lit (.int .i64 x)])]
def Row.ok (b : Row) : Prop := (Lit.int .i64 b.ref).wf = true ∧ (b.watches.length ≤ maxLen ∧ (∀ y, y ∈ b.watches → (Lit.int .i64 y).wf = true) ∧ b.watches.length * 8 ≤ 140737488351232) ∧ (b.links.length ≤ maxLen ∧ (∀ y, y ∈ b.links → (Lit.int .i64 y).wf = true) ∧ b.links.length * 8 ≤ 140737488351232)
theorem Row.row_length (b : Row) : b.row.length = 3 := rfl
set_option maxRecDepth 100000 in
theorem sh39 {f : Nat} {xs : List PV} (h : shapeOk Try.prog f 39 xs) : ∃ x : Row, xs = x.row ∧ x.ok := by
  obtain ⟨m, rfl, hl, hf⟩ := shape_struct Try.underlying39 h
  rw [c39] at hl
  match xs, hl with
  | [q0, q1, q2], _ =>
    have h0 := hf _ List.mem_cons_self
    have h1 := hf _ (List.mem_cons_of_mem _ List.mem_cons_self)
    have h2 := hf _ (List.mem_cons_of_mem _ (List.mem_cons_of_mem _ List.mem_cons_self))
    simp only [c3, c37, List.drop_zero, List.drop_succ_cons, List.take_succ_cons, List.take_zero] at h0 h1 h2
    obtain ⟨x0, e0, k0⟩ := shape_int Try.underlying3 h0
    obtain ⟨x1, e1, k1⟩ := sh37 h1
    obtain ⟨x2, e2, k2⟩ := sh37 h2
    simp only [List.cons.injEq, and_true] at e0 e1 e2
    exact ⟨⟨x0, x1, x2⟩, by rw [e0, e1, e2]; rfl, k0, k1, k2⟩

theorem rows39 {f : Nat} : ∀ (rows : List (List PV)), (∀ r, r ∈ rows → r.length = Try.prog.cellsOf 39 ∧ shapeOk Try.prog f 39 r) → ∃ ls : List Row, rows = ls.map (Row.row) ∧ ∀ x, x ∈ ls → x.ok
  | [], _ => ⟨[], rfl, fun x hx => by cases hx⟩
  | r :: rows, h => by
    obtain ⟨x, rfl, hx⟩ := sh39 (h r List.mem_cons_self).2
    obtain ⟨ls, rfl, hl⟩ := rows39 rows fun r hr => h r (List.mem_cons_of_mem _ hr)
    exact ⟨x :: ls, rfl, fun y hy => by rcases List.mem_cons.1 hy with rfl | hy; exact hx; exact hl y hy⟩

theorem sh31 {f : Nat} {xs : List PV} (h : shapeOk Try.prog f 31 xs) : ∃ x : (List Row), xs = [.sl (x.map Row.row)] ∧ (x.length ≤ maxLen ∧ (∀ y, y ∈ x → y.ok) ∧ x.length * 56 ≤ 140737488351232) := by
  obtain ⟨n, rows, _, rfl, hmax, hfit, hr⟩ := shape_slice Try.underlying31 h
  obtain ⟨ls, rfl, hl⟩ := rows39 rows hr
  exact ⟨ls, rfl, by simpa using hmax, hl, by rw [show Try.prog.bytesOf 39 = 56 by kernel_rfl, reach_is] at hfit; simpa using hfit⟩
end Go.Proofs.Ytfjfiemcdnicoaa.P
