/- Letters and boxes: what their shapes say. -/
import Derived.Test.YtofbhmcmejhepaaB4
set_option linter.unusedSimpArgs false
set_option linter.unusedVariables false
set_option maxHeartbeats 1000000
namespace Go.Proofs.Ytofbhmcmejhepaa.P
open Go.Ab

theorem closed : closedT Try.prog [3, 9, 32, 34, 41, 43, 45] = true := by kernel_rfl
theorem c43 : Try.prog.cellsOf 43 = 2 := by kernel_rfl
theorem c45 : Try.prog.cellsOf 45 = 9 := by kernel_rfl
theorem c41 : Try.prog.cellsOf 41 = 1 := by kernel_rfl

abbrev Letter.value (x : Letter) : List PV := [.lit (.int .i64 x.vkind), .lit (.int .i64 x.vnum), .lit (.string x.vtext), .sl x.vargs]

set_option maxRecDepth 100000 in
theorem sh45 {f : Nat} {xs : List PV} (h : shapeOk Try.prog f 45 xs) : ∃ (x : Letter) (g : Nat), xs = x.row ∧ g < f ∧ shapeOk Try.prog g 34 x.value := by
  obtain ⟨m, rfl, hl, hf⟩ := shape_struct Try.underlying45 h
  rw [c45] at hl
  match xs, hl with
  | [x0, x1, x2, x3, x4, y0, y1, y2, y3], _ =>
    have h0 := hf _ (List.mem_cons_self)
    have h1 := hf _ (List.mem_cons_of_mem _ List.mem_cons_self)
    have h2 := hf _ (List.mem_cons_of_mem _ (List.mem_cons_of_mem _ List.mem_cons_self))
    have h3 := hf _ (List.mem_cons_of_mem _ (List.mem_cons_of_mem _ (List.mem_cons_of_mem _ List.mem_cons_self)))
    have h4 := hf _ (List.mem_cons_of_mem _ (List.mem_cons_of_mem _ (List.mem_cons_of_mem _ (List.mem_cons_of_mem _ List.mem_cons_self))))
    have h5 := hf _ (List.mem_cons_of_mem _ (List.mem_cons_of_mem _ (List.mem_cons_of_mem _ (List.mem_cons_of_mem _ (List.mem_cons_of_mem _ List.mem_cons_self)))))
    simp only [c3, c9, c34, List.drop_zero, List.drop_succ_cons, List.take_succ_cons, List.take_zero] at h0 h1 h2 h3 h4 h5
    obtain ⟨k0, e0, _⟩ := shape_int Try.underlying3 h0
    obtain ⟨k1, e1, _⟩ := shape_int Try.underlying3 h1
    obtain ⟨k2, e2, _⟩ := shape_int Try.underlying3 h2
    obtain ⟨k3, e3, _⟩ := shape_int Try.underlying3 h3
    obtain ⟨s4, e4, _⟩ := shape_string Try.underlying9 h4
    have h5' := h5
    obtain ⟨a, b, t, v, g, e5, _⟩ := sh34 h5
    simp only [List.cons.injEq, and_true] at e0 e1 e2 e3 e4 e5
    obtain ⟨e5, e6, e7, e8⟩ := e5
    subst e0 e1 e2 e3 e4 e5 e6 e7 e8
    exact ⟨⟨k0, k1, k2, k3, s4, a, b, t, v⟩, m, rfl, by omega, h5'⟩

theorem rows_letters {f : Nat} : ∀ (rows : List (List PV)), (∀ r, r ∈ rows → r.length = Try.prog.cellsOf 45 ∧ shapeOk Try.prog f 45 r) → ∃ ls : List Letter, rows = ls.map Letter.row ∧ ∀ l, l ∈ ls → ∃ g, shapeOk Try.prog g 34 l.value
  | [], _ => ⟨[], rfl, fun l hl => by cases hl⟩
  | r :: rows, h => by
    obtain ⟨x, g, rfl, _, hx⟩ := sh45 (h r List.mem_cons_self).2
    obtain ⟨ls, rfl, hls⟩ := rows_letters rows fun r hr => h r (List.mem_cons_of_mem _ hr)
    refine ⟨x :: ls, rfl, fun l hl => ?_⟩
    rcases List.mem_cons.1 hl with rfl | hl
    · exact ⟨g, hx⟩
    · exact hls l hl

set_option maxRecDepth 100000 in
theorem sh43 {f : Nat} {xs : List PV} (h : shapeOk Try.prog f 43 xs) : ∃ (ls : List Letter) (pos : Int), xs = [.sl (ls.map Letter.row), .lit (.int .i64 pos)] ∧ ls.length ≤ maxLen ∧ ∀ l, l ∈ ls → ∃ g, shapeOk Try.prog g 34 l.value := by
  obtain ⟨m, rfl, hl, hf⟩ := shape_struct Try.underlying43 h
  rw [c43] at hl
  match xs, hl with
  | [a, b], _ =>
    have h0 := hf _ (List.mem_cons_self)
    have h1 := hf _ (List.mem_cons_of_mem _ List.mem_cons_self)
    simp only [c3, c41, List.drop_zero, List.drop_succ_cons, List.take_succ_cons, List.take_zero] at h0 h1
    obtain ⟨n, rows, _, e0, hmax, _, hr⟩ := shape_slice Try.underlying41 h0
    obtain ⟨k, e1, _⟩ := shape_int Try.underlying3 h1
    obtain ⟨ls, rfl, hls⟩ := rows_letters rows hr
    simp only [List.cons.injEq, and_true] at e0 e1
    exact ⟨ls, k, by rw [e0, e1], by simpa using hmax, hls⟩

abbrev Shaped (x : Letter) : Prop := ∃ g, shapeOk Try.prog g 34 x.value

theorem sh41 {f : Nat} {xs : List PV} (h : shapeOk Try.prog f 41 xs) : ∃ ls : List Letter, xs = [.sl (ls.map Letter.row)] ∧ ls.length ≤ maxLen ∧ ∀ l, l ∈ ls → Shaped l := by
  obtain ⟨n, rows, _, e0, hmax, _, hr⟩ := shape_slice Try.underlying41 h
  obtain ⟨ls, rfl, hls⟩ := rows_letters rows hr
  exact ⟨ls, e0, by simpa using hmax, hls⟩
end Go.Proofs.Ytofbhmcmejhepaa.P
