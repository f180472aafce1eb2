/- Shapes of objects and values. -/
import Derived.Test.YtagphggcdmjlpaaH13
set_option linter.unusedSimpArgs false
set_option linter.unusedVariables false
set_option maxHeartbeats 1000000
namespace Go.Proofs.Ytagphggcdmjlpaa.P
open Go.Ab

theorem closed2 : closedT Try.prog [3, 9, 22, 23, 30, 34, 36, 38] = true := by kernel_rfl
theorem c30 : Try.prog.cellsOf 30 = 5 := by kernel_rfl
theorem c22 : Try.prog.cellsOf 22 = 1 := by kernel_rfl

theorem sh22 {f : Nat} {xs : List PV} (h : shapeOk Try.prog f 22 xs) : ∃ ls : List Int, xs = [.sl (ls.map wrow)] ∧ ls.length ≤ maxLen ∧ ∀ w, w ∈ ls → WordOk w := by
  obtain ⟨n, rows, _, e0, hmax, _, hr⟩ := shape_slice Try.underlying22 h
  obtain ⟨ls, rfl, hls⟩ := word_rows rows hr
  exact ⟨ls, e0, by simpa using hmax, hls⟩

set_option maxRecDepth 100000 in
theorem sh30 {f : Nat} {xs : List PV} (h : shapeOk Try.prog f 30 xs) : ∃ o : Obj, xs = o.row ∧ NumOk o.num ∧ ∀ w, w ∈ o.parts → WordOk w := by
  obtain ⟨m, rfl, hl, hf⟩ := shape_struct Try.underlying30 h
  rw [c30] at hl
  match xs, hl with
  | [a, b, c, d, e], _ =>
    have h0 := hf _ (List.mem_cons_self)
    have h1 := hf _ (List.mem_cons_of_mem _ List.mem_cons_self)
    have h2 := hf _ (List.mem_cons_of_mem _ (List.mem_cons_of_mem _ List.mem_cons_self))
    have h3 := hf _ (List.mem_cons_of_mem _ (List.mem_cons_of_mem _ (List.mem_cons_of_mem _ List.mem_cons_self)))
    have h5 := hf _ (List.mem_cons_of_mem _ (List.mem_cons_of_mem _ (List.mem_cons_of_mem _ (List.mem_cons_of_mem _ List.mem_cons_self))))
    simp only [c3, c9, c22, List.drop_zero, List.drop_succ_cons, List.take_succ_cons, List.take_zero] at h0 h1 h2 h3 h5
    obtain ⟨k0, e0, _⟩ := shape_int Try.underlying3 h0
    obtain ⟨k1, e1, _⟩ := shape_int Try.underlying3 h1
    obtain ⟨k2, e2, hn⟩ := shape_int Try.underlying3 h2
    obtain ⟨s, e3, _⟩ := shape_string Try.underlying9 h3
    obtain ⟨ls, e4, _, hls⟩ := sh22 h5
    simp only [List.cons.injEq, and_true] at e0 e1 e2 e3 e4
    subst e0 e1 e2 e3 e4
    exact ⟨⟨k0, k1, k2, s, ls⟩, rfl, num_wf hn, hls⟩
end Go.Proofs.Ytagphggcdmjlpaa.P
