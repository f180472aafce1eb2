/- What data of the types of this seat's statements looks like, by a program of this session (genshape.py). -/
import Derived.Test.YtjaghpkmbgcabaaT
import Derived.Test.YtjaghpkmbgcabaaAb28
set_option linter.unusedSimpArgs false
set_option linter.unusedVariables false
set_option maxHeartbeats 1000000
namespace Go.Proofs.Ytjaghpkmbgcabaa.P4
open Go.Ab
theorem closed : closedT Try.prog [3, 34, 45] = true := by kernel_rfl
theorem c3 : Try.prog.cellsOf 3 = 1 := by kernel_rfl
theorem c34 : Try.prog.cellsOf 34 = 1 := by kernel_rfl
theorem c45 : Try.prog.cellsOf 45 = 1 := by kernel_rfl
theorem sh_bool {P : Program} {f : Nat} {t : TypeId} {xs : List PV} (hu : P.underlying t = some .bool) (h : shapeOk P f t xs) : ∃ b, xs = [.lit (.bool b)] ∧ True := by
  obtain ⟨b, rfl⟩ := shape_bool hu h; exact ⟨b, rfl, trivial⟩
theorem rows3 {f : Nat} : ∀ (rows : List (List PV)), (∀ r, r ∈ rows → r.length = Try.prog.cellsOf 3 ∧ shapeOk Try.prog f 3 r) → ∃ ls : List Int, rows = ls.map (fun x => [.lit (.int .i64 x)]) ∧ ∀ x, x ∈ ls → (Lit.int .i64 x).wf = true
  | [], _ => ⟨[], rfl, fun x hx => by cases hx⟩
  | r :: rows, h => by
    obtain ⟨x, rfl, hx⟩ := shape_int Try.underlying3 (h r List.mem_cons_self).2
    obtain ⟨ls, rfl, hl⟩ := rows3 rows fun r hr => h r (List.mem_cons_of_mem _ hr)
    exact ⟨x :: ls, rfl, fun y hy => by rcases List.mem_cons.1 hy with rfl | hy; exact hx; exact hl y hy⟩

theorem sh34 {f : Nat} {xs : List PV} (h : shapeOk Try.prog f 34 xs) : ∃ x : (List Int), xs = [.sl (x.map fun x => [.lit (.int .i64 x)])] ∧ (x.length ≤ maxLen ∧ (∀ y, y ∈ x → (Lit.int .i64 y).wf = true) ∧ x.length * 8 ≤ 140737488351232) := by
  obtain ⟨n, rows, _, rfl, hmax, hfit, hr⟩ := shape_slice Try.underlying34 h
  obtain ⟨ls, rfl, hl⟩ := rows3 rows hr
  exact ⟨ls, rfl, by simpa using hmax, hl, by rw [show Try.prog.bytesOf 3 = 8 by kernel_rfl, reach_is] at hfit; simpa using hfit⟩

theorem rows34 {f : Nat} : ∀ (rows : List (List PV)), (∀ r, r ∈ rows → r.length = Try.prog.cellsOf 34 ∧ shapeOk Try.prog f 34 r) → ∃ ls : List (List Int), rows = ls.map (fun x => [.sl (x.map fun x => [.lit (.int .i64 x)])]) ∧ ∀ x, x ∈ ls → (x.length ≤ maxLen ∧ (∀ y, y ∈ x → (Lit.int .i64 y).wf = true) ∧ x.length * 8 ≤ 140737488351232)
  | [], _ => ⟨[], rfl, fun x hx => by cases hx⟩
  | r :: rows, h => by
    obtain ⟨x, rfl, hx⟩ := sh34 (h r List.mem_cons_self).2
    obtain ⟨ls, rfl, hl⟩ := rows34 rows fun r hr => h r (List.mem_cons_of_mem _ hr)
    exact ⟨x :: ls, rfl, fun y hy => by rcases List.mem_cons.1 hy with rfl | hy; exact hx; exact hl y hy⟩

theorem sh45 {f : Nat} {xs : List PV} (h : shapeOk Try.prog f 45 xs) : ∃ x : (List (List Int)), xs = [.sl (x.map fun x => [.sl (x.map fun x => [.lit (.int .i64 x)])])] ∧ (x.length ≤ maxLen ∧ (∀ y, y ∈ x → (y.length ≤ maxLen ∧ (∀ z, z ∈ y → (Lit.int .i64 z).wf = true) ∧ y.length * 8 ≤ 140737488351232)) ∧ x.length * 24 ≤ 140737488351232) := by
  obtain ⟨n, rows, _, rfl, hmax, hfit, hr⟩ := shape_slice Try.underlying45 h
  obtain ⟨ls, rfl, hl⟩ := rows34 rows hr
  exact ⟨ls, rfl, by simpa using hmax, hl, by rw [show Try.prog.bytesOf 34 = 24 by kernel_rfl, reach_is] at hfit; simpa using hfit⟩
end Go.Proofs.Ytjaghpkmbgcabaa.P4
