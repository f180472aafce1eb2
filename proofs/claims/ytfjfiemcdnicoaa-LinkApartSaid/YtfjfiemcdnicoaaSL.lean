/- What letters look like. -/
import Derived.Test.YtfjfiemcdnicoaaT
import Derived.Test.YtfjfiemcdnicoaaAb28
set_option linter.unusedSimpArgs false
set_option linter.unusedVariables false
set_option maxHeartbeats 1000000
namespace Go.Proofs.Ytfjfiemcdnicoaa.PL
open Go.Ab

structure Letter where
  kind : Int
  src : Int
  dst : Int
  num : Int
  text : ByteArray
  vkind : Int
  vnum : Int
  vtext : ByteArray
  vargs : List (List PV)

def Letter.row (x : Letter) : List PV := [.lit (.int .i64 x.kind), .lit (.int .i64 x.src), .lit (.int .i64 x.dst), .lit (.int .i64 x.num), .lit (.string x.text), .lit (.int .i64 x.vkind), .lit (.int .i64 x.vnum), .lit (.string x.vtext), .sl x.vargs]

theorem closed : closedT Try.prog [3, 9, 22, 24, 26] = true := by kernel_rfl
theorem c24 : Try.prog.cellsOf 24 = 4 := by kernel_rfl
theorem c3 : Try.prog.cellsOf 3 = 1 := by kernel_rfl
theorem c9 : Try.prog.cellsOf 9 = 1 := by kernel_rfl
theorem c22 : Try.prog.cellsOf 22 = 1 := by kernel_rfl
theorem c26 : Try.prog.cellsOf 26 = 9 := by kernel_rfl

set_option maxRecDepth 100000 in
theorem sh24 {f : Nat} {xs : List PV} (h : shapeOk Try.prog f 24 xs) : ∃ k n text args g, xs = [.lit (.int .i64 k), .lit (.int .i64 n), .lit (.string text), .sl args] ∧ g < f ∧ args.length ≤ maxLen ∧ ∀ r, r ∈ args → r.length = 4 ∧ shapeOk Try.prog g 24 r := by
  obtain ⟨m, rfl, hl, hf⟩ := shape_struct Try.underlying24 h
  rw [c24] at hl
  match xs, hl with
  | [a, b, c, d], _ =>
    have h0 := hf _ (List.mem_cons_self)
    have h1 := hf _ (List.mem_cons_of_mem _ List.mem_cons_self)
    have h2 := hf _ (List.mem_cons_of_mem _ (List.mem_cons_of_mem _ List.mem_cons_self))
    have h3 := hf _ (List.mem_cons_of_mem _ (List.mem_cons_of_mem _ (List.mem_cons_of_mem _ List.mem_cons_self)))
    simp only [c3, c9, c22, List.drop_zero, List.drop_succ_cons, List.take_succ_cons, List.take_zero] at h0 h1 h2 h3
    obtain ⟨k, e0, _⟩ := shape_int Try.underlying3 h0
    obtain ⟨n, e1, _⟩ := shape_int Try.underlying3 h1
    obtain ⟨s, e2, _⟩ := shape_string Try.underlying9 h2
    obtain ⟨g, r, hg, e3, e4, _, e5⟩ := shape_slice Try.underlying22 h3
    simp only [List.cons.injEq, and_true] at e0 e1 e2 e3
    rw [c24] at e5
    exact ⟨k, n, s, r, g, by rw [e0, e1, e2, e3], by omega, e4, e5⟩

set_option maxRecDepth 100000 in
theorem sh26 {f : Nat} {xs : List PV} (h : shapeOk Try.prog f 26 xs) : ∃ (x : Letter), xs = x.row ∧ True := by
  obtain ⟨m, rfl, hl, hf⟩ := shape_struct Try.underlying26 h
  rw [c26] at hl
  match xs, hl with
  | [x0, x1, x2, x3, x4, y0, y1, y2, y3], _ =>
    have h0 := hf _ (List.mem_cons_self)
    have h1 := hf _ (List.mem_cons_of_mem _ List.mem_cons_self)
    have h2 := hf _ (List.mem_cons_of_mem _ (List.mem_cons_of_mem _ List.mem_cons_self))
    have h3 := hf _ (List.mem_cons_of_mem _ (List.mem_cons_of_mem _ (List.mem_cons_of_mem _ List.mem_cons_self)))
    have h4 := hf _ (List.mem_cons_of_mem _ (List.mem_cons_of_mem _ (List.mem_cons_of_mem _ (List.mem_cons_of_mem _ List.mem_cons_self))))
    have h5 := hf _ (List.mem_cons_of_mem _ (List.mem_cons_of_mem _ (List.mem_cons_of_mem _ (List.mem_cons_of_mem _ (List.mem_cons_of_mem _ List.mem_cons_self)))))
    simp only [c3, c9, c24, List.drop_zero, List.drop_succ_cons, List.take_succ_cons, List.take_zero] at h0 h1 h2 h3 h4 h5
    obtain ⟨k0, e0, _⟩ := shape_int Try.underlying3 h0
    obtain ⟨k1, e1, _⟩ := shape_int Try.underlying3 h1
    obtain ⟨k2, e2, _⟩ := shape_int Try.underlying3 h2
    obtain ⟨k3, e3, _⟩ := shape_int Try.underlying3 h3
    obtain ⟨s4, e4, _⟩ := shape_string Try.underlying9 h4
    obtain ⟨a, b, t, v, g, e5, _⟩ := sh24 h5
    simp only [List.cons.injEq, and_true] at e0 e1 e2 e3 e4 e5
    obtain ⟨e5, e6, e7, e8⟩ := e5
    subst e0 e1 e2 e3 e4 e5 e6 e7 e8
    exact ⟨⟨k0, k1, k2, k3, s4, a, b, t, v⟩, rfl, trivial⟩
end Go.Proofs.Ytfjfiemcdnicoaa.PL
