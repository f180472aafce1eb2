/- What data of the types of this seat's statements looks like, by a program of this session (genshape.py). -/
import Derived.Test.YtonfjlbklmcpoaaT
import Derived.Test.YtonfjlbklmcpoaaAb27
set_option linter.unusedSimpArgs false
set_option linter.unusedVariables false
namespace Go.Proofs.Ytonfjlbklmcpoaa.P
open Go.Ab
theorem closed : closedT Try.prog [3, 4, 22, 23, 25, 34, 38, 43] = true := by kernel_rfl
theorem c3 : Try.prog.cellsOf 3 = 1 := by kernel_rfl
theorem c4 : Try.prog.cellsOf 4 = 1 := by kernel_rfl
theorem c22 : Try.prog.cellsOf 22 = 1 := by kernel_rfl
theorem c23 : Try.prog.cellsOf 23 = 1 := by kernel_rfl
theorem c25 : Try.prog.cellsOf 25 = 5 := by kernel_rfl
theorem c34 : Try.prog.cellsOf 34 = 3 := by kernel_rfl
theorem c38 : Try.prog.cellsOf 38 = 1 := by kernel_rfl
theorem c43 : Try.prog.cellsOf 43 = 3 := by kernel_rfl
theorem sh_bool {P : Program} {f : Nat} {t : TypeId} {xs : List PV} (hu : P.underlying t = some .bool) (h : shapeOk P f t xs) : ∃ b, xs = [.lit (.bool b)] ∧ True := by
  obtain ⟨b, rfl⟩ := shape_bool hu h; exact ⟨b, rfl, trivial⟩
structure Child where
  cid : Int
  when : Int
  lives : Bool

def Child.row (b : Child) : List PV := [.lit (.int .i64 b.cid), .lit (.int .i64 b.when), .lit (.bool b.lives)]
def Child.ok (b : Child) : Prop := (Lit.int .i64 b.cid).wf = true ∧ (Lit.int .i64 b.when).wf = true ∧ True
theorem Child.row_length (b : Child) : b.row.length = 3 := rfl
set_option maxRecDepth 100000 in
theorem sh34 {f : Nat} {xs : List PV} (h : shapeOk Try.prog f 34 xs) : ∃ x : Child, xs = x.row ∧ x.ok := by
  obtain ⟨m, rfl, hl, hf⟩ := shape_struct Try.underlying34 h
  rw [c34] at hl
  match xs, hl with
  | [q0, q1, q2], _ =>
    have h0 := hf _ List.mem_cons_self
    have h1 := hf _ (List.mem_cons_of_mem _ List.mem_cons_self)
    have h2 := hf _ (List.mem_cons_of_mem _ (List.mem_cons_of_mem _ List.mem_cons_self))
    simp only [c3, c4, List.drop_zero, List.drop_succ_cons, List.take_succ_cons, List.take_zero] at h0 h1 h2
    obtain ⟨x0, e0, k0⟩ := shape_int Try.underlying3 h0
    obtain ⟨x1, e1, k1⟩ := shape_int Try.underlying3 h1
    obtain ⟨x2, e2, k2⟩ := sh_bool Try.underlying4 h2
    simp only [List.cons.injEq, and_true] at e0 e1 e2
    exact ⟨⟨x0, x1, x2⟩, by rw [e0, e1, e2]; rfl, k0, k1, k2⟩

theorem rows3 {f : Nat} : ∀ (rows : List (List PV)), (∀ r, r ∈ rows → r.length = Try.prog.cellsOf 3 ∧ shapeOk Try.prog f 3 r) → ∃ ls : List Int, rows = ls.map (fun x => [.lit (.int .i64 x)]) ∧ ∀ x, x ∈ ls → (Lit.int .i64 x).wf = true
  | [], _ => ⟨[], rfl, fun x hx => by cases hx⟩
  | r :: rows, h => by
    obtain ⟨x, rfl, hx⟩ := shape_int Try.underlying3 (h r List.mem_cons_self).2
    obtain ⟨ls, rfl, hl⟩ := rows3 rows fun r hr => h r (List.mem_cons_of_mem _ hr)
    exact ⟨x :: ls, rfl, fun y hy => by rcases List.mem_cons.1 hy with rfl | hy; exact hx; exact hl y hy⟩

theorem sh23 {f : Nat} {xs : List PV} (h : shapeOk Try.prog f 23 xs) : ∃ x : (List Int), xs = [.sl (x.map fun x => [.lit (.int .i64 x)])] ∧ (x.length ≤ maxLen ∧ ∀ y, y ∈ x → (Lit.int .i64 y).wf = true) := by
  obtain ⟨n, rows, _, rfl, hmax, hr⟩ := shape_slice Try.underlying23 h
  obtain ⟨ls, rfl, hl⟩ := rows3 rows hr
  exact ⟨ls, rfl, by simpa using hmax, hl⟩

theorem rows34 {f : Nat} : ∀ (rows : List (List PV)), (∀ r, r ∈ rows → r.length = Try.prog.cellsOf 34 ∧ shapeOk Try.prog f 34 r) → ∃ ls : List Child, rows = ls.map (Child.row) ∧ ∀ x, x ∈ ls → x.ok
  | [], _ => ⟨[], rfl, fun x hx => by cases hx⟩
  | r :: rows, h => by
    obtain ⟨x, rfl, hx⟩ := sh34 (h r List.mem_cons_self).2
    obtain ⟨ls, rfl, hl⟩ := rows34 rows fun r hr => h r (List.mem_cons_of_mem _ hr)
    exact ⟨x :: ls, rfl, fun y hy => by rcases List.mem_cons.1 hy with rfl | hy; exact hx; exact hl y hy⟩

theorem sh22 {f : Nat} {xs : List PV} (h : shapeOk Try.prog f 22 xs) : ∃ x : (List Child), xs = [.sl (x.map Child.row)] ∧ (x.length ≤ maxLen ∧ ∀ y, y ∈ x → y.ok) := by
  obtain ⟨n, rows, _, rfl, hmax, hr⟩ := shape_slice Try.underlying22 h
  obtain ⟨ls, rfl, hl⟩ := rows34 rows hr
  exact ⟨ls, rfl, by simpa using hmax, hl⟩

structure Ward where
  how : Int
  most : Int
  window : Int
  children : List Child
  times : List Int

def Ward.row (b : Ward) : List PV := [.lit (.int .i64 b.how), .lit (.int .i64 b.most), .lit (.int .i64 b.window), .sl (b.children.map Child.row), .sl (b.times.map fun x => [.lit (.int .i64 x)])]
def Ward.ok (b : Ward) : Prop := (Lit.int .i64 b.how).wf = true ∧ (Lit.int .i64 b.most).wf = true ∧ (Lit.int .i64 b.window).wf = true ∧ (b.children.length ≤ maxLen ∧ ∀ y, y ∈ b.children → y.ok) ∧ (b.times.length ≤ maxLen ∧ ∀ y, y ∈ b.times → (Lit.int .i64 y).wf = true)
theorem Ward.row_length (b : Ward) : b.row.length = 5 := rfl
set_option maxRecDepth 100000 in
theorem sh25 {f : Nat} {xs : List PV} (h : shapeOk Try.prog f 25 xs) : ∃ x : Ward, xs = x.row ∧ x.ok := by
  obtain ⟨m, rfl, hl, hf⟩ := shape_struct Try.underlying25 h
  rw [c25] at hl
  match xs, hl with
  | [q0, q1, q2, q3, q4], _ =>
    have h0 := hf _ List.mem_cons_self
    have h1 := hf _ (List.mem_cons_of_mem _ List.mem_cons_self)
    have h2 := hf _ (List.mem_cons_of_mem _ (List.mem_cons_of_mem _ List.mem_cons_self))
    have h3 := hf _ (List.mem_cons_of_mem _ (List.mem_cons_of_mem _ (List.mem_cons_of_mem _ List.mem_cons_self)))
    have h4 := hf _ (List.mem_cons_of_mem _ (List.mem_cons_of_mem _ (List.mem_cons_of_mem _ (List.mem_cons_of_mem _ List.mem_cons_self))))
    simp only [c3, c22, c23, List.drop_zero, List.drop_succ_cons, List.take_succ_cons, List.take_zero] at h0 h1 h2 h3 h4
    obtain ⟨x0, e0, k0⟩ := shape_int Try.underlying3 h0
    obtain ⟨x1, e1, k1⟩ := shape_int Try.underlying3 h1
    obtain ⟨x2, e2, k2⟩ := shape_int Try.underlying3 h2
    obtain ⟨x3, e3, k3⟩ := sh22 h3
    obtain ⟨x4, e4, k4⟩ := sh23 h4
    simp only [List.cons.injEq, and_true] at e0 e1 e2 e3 e4
    exact ⟨⟨x0, x1, x2, x3, x4⟩, by rw [e0, e1, e2, e3, e4]; rfl, k0, k1, k2, k3, k4⟩

structure Fall where
  fid : Int
  failed : Bool
  now : Int

def Fall.row (b : Fall) : List PV := [.lit (.int .i64 b.fid), .lit (.bool b.failed), .lit (.int .i64 b.now)]
def Fall.ok (b : Fall) : Prop := (Lit.int .i64 b.fid).wf = true ∧ True ∧ (Lit.int .i64 b.now).wf = true
theorem Fall.row_length (b : Fall) : b.row.length = 3 := rfl
set_option maxRecDepth 100000 in
theorem sh43 {f : Nat} {xs : List PV} (h : shapeOk Try.prog f 43 xs) : ∃ x : Fall, xs = x.row ∧ x.ok := by
  obtain ⟨m, rfl, hl, hf⟩ := shape_struct Try.underlying43 h
  rw [c43] at hl
  match xs, hl with
  | [q0, q1, q2], _ =>
    have h0 := hf _ List.mem_cons_self
    have h1 := hf _ (List.mem_cons_of_mem _ List.mem_cons_self)
    have h2 := hf _ (List.mem_cons_of_mem _ (List.mem_cons_of_mem _ List.mem_cons_self))
    simp only [c3, c4, List.drop_zero, List.drop_succ_cons, List.take_succ_cons, List.take_zero] at h0 h1 h2
    obtain ⟨x0, e0, k0⟩ := shape_int Try.underlying3 h0
    obtain ⟨x1, e1, k1⟩ := sh_bool Try.underlying4 h1
    obtain ⟨x2, e2, k2⟩ := shape_int Try.underlying3 h2
    simp only [List.cons.injEq, and_true] at e0 e1 e2
    exact ⟨⟨x0, x1, x2⟩, by rw [e0, e1, e2]; rfl, k0, k1, k2⟩

theorem rows43 {f : Nat} : ∀ (rows : List (List PV)), (∀ r, r ∈ rows → r.length = Try.prog.cellsOf 43 ∧ shapeOk Try.prog f 43 r) → ∃ ls : List Fall, rows = ls.map (Fall.row) ∧ ∀ x, x ∈ ls → x.ok
  | [], _ => ⟨[], rfl, fun x hx => by cases hx⟩
  | r :: rows, h => by
    obtain ⟨x, rfl, hx⟩ := sh43 (h r List.mem_cons_self).2
    obtain ⟨ls, rfl, hl⟩ := rows43 rows fun r hr => h r (List.mem_cons_of_mem _ hr)
    exact ⟨x :: ls, rfl, fun y hy => by rcases List.mem_cons.1 hy with rfl | hy; exact hx; exact hl y hy⟩

theorem sh38 {f : Nat} {xs : List PV} (h : shapeOk Try.prog f 38 xs) : ∃ x : (List Fall), xs = [.sl (x.map Fall.row)] ∧ (x.length ≤ maxLen ∧ ∀ y, y ∈ x → y.ok) := by
  obtain ⟨n, rows, _, rfl, hmax, hr⟩ := shape_slice Try.underlying38 h
  obtain ⟨ls, rfl, hl⟩ := rows43 rows hr
  exact ⟨ls, rfl, by simpa using hmax, hl⟩
end Go.Proofs.Ytonfjlbklmcpoaa.P
