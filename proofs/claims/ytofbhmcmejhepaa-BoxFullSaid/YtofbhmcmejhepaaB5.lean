/- The statement BoxFull: a letter is rejected if and only if it is of the wrong kind or the mailbox is full. -/
import Derived.Test.YtofbhmcmejhepaaRows
import Derived.Test.YtofbhmcmejhepaaB4
import Derived.WalkKit
import Derived.ProofKit
import Derived.OpenShut
import Derived.ShutString
import Derived.ChangeOld
import Derived.Below
import Derived.SizedLaws
set_option linter.unusedSimpArgs false
set_option linter.unusedVariables false
namespace Go.Proofs.Ytofbhmcmejhepaa.P
open Go.Ab

theorem closed : closedT Try.prog [3, 9, 32, 34, 41, 43, 45] = true := by kernel_rfl
theorem c43 : Try.prog.cellsOf 43 = 2 := by kernel_rfl
theorem c45 : Try.prog.cellsOf 45 = 9 := by kernel_rfl
theorem c41 : Try.prog.cellsOf 41 = 1 := by kernel_rfl

abbrev Letter.value (x : Letter) : List PV := [.lit (.int .i64 x.vkind), .lit (.int .i64 x.vnum), .lit (.string x.vtext), .sl x.vargs]

set_option maxRecDepth 100000 in
theorem sh45 {f : Nat} {xs : List PV} (h : shapeOk Try.prog f 45 xs) : ∃ (x : Letter) (g : Nat), xs = x.row ∧ g < f ∧ shapeOk Try.prog g 34 x.value := by
  obtain ⟨m, rfl, hl, hf⟩ := shape_struct Try.underlying45 h
  rw [c45] at hl
  match xs, hl with
  | [x0, x1, x2, x3, x4, y0, y1, y2, y3], _ =>
    have h0 := hf _ (List.mem_cons_self)
    have h1 := hf _ (List.mem_cons_of_mem _ List.mem_cons_self)
    have h2 := hf _ (List.mem_cons_of_mem _ (List.mem_cons_of_mem _ List.mem_cons_self))
    have h3 := hf _ (List.mem_cons_of_mem _ (List.mem_cons_of_mem _ (List.mem_cons_of_mem _ List.mem_cons_self)))
    have h4 := hf _ (List.mem_cons_of_mem _ (List.mem_cons_of_mem _ (List.mem_cons_of_mem _ (List.mem_cons_of_mem _ List.mem_cons_self))))
    have h5 := hf _ (List.mem_cons_of_mem _ (List.mem_cons_of_mem _ (List.mem_cons_of_mem _ (List.mem_cons_of_mem _ (List.mem_cons_of_mem _ List.mem_cons_self)))))
    simp only [c3, c9, c34, List.drop_zero, List.drop_succ_cons, List.take_succ_cons, List.take_zero] at h0 h1 h2 h3 h4 h5
    obtain ⟨k0, e0, _⟩ := shape_int Try.underlying3 h0
    obtain ⟨k1, e1, _⟩ := shape_int Try.underlying3 h1
    obtain ⟨k2, e2, _⟩ := shape_int Try.underlying3 h2
    obtain ⟨k3, e3, _⟩ := shape_int Try.underlying3 h3
    obtain ⟨s4, e4, _⟩ := shape_string Try.underlying9 h4
    have h5' := h5
    obtain ⟨a, b, t, v, g, e5, _⟩ := sh34 h5
    simp only [List.cons.injEq, and_true] at e0 e1 e2 e3 e4 e5
    obtain ⟨e5, e6, e7, e8⟩ := e5
    subst e0 e1 e2 e3 e4 e5 e6 e7 e8
    exact ⟨⟨k0, k1, k2, k3, s4, a, b, t, v⟩, m, rfl, by omega, h5'⟩

theorem rows_letters {f : Nat} : ∀ (rows : List (List PV)), (∀ r, r ∈ rows → r.length = Try.prog.cellsOf 45 ∧ shapeOk Try.prog f 45 r) → ∃ ls : List Letter, rows = ls.map Letter.row ∧ ∀ l, l ∈ ls → ∃ g, shapeOk Try.prog g 34 l.value
  | [], _ => ⟨[], rfl, fun l hl => by cases hl⟩
  | r :: rows, h => by
    obtain ⟨x, g, rfl, _, hx⟩ := sh45 (h r List.mem_cons_self).2
    obtain ⟨ls, rfl, hls⟩ := rows_letters rows fun r hr => h r (List.mem_cons_of_mem _ hr)
    refine ⟨x :: ls, rfl, fun l hl => ?_⟩
    rcases List.mem_cons.1 hl with rfl | hl
    · exact ⟨g, hx⟩
    · exact hls l hl

set_option maxRecDepth 100000 in
theorem sh43 {f : Nat} {xs : List PV} (h : shapeOk Try.prog f 43 xs) : ∃ (ls : List Letter) (pos : Int), xs = [.sl (ls.map Letter.row), .lit (.int .i64 pos)] ∧ ls.length ≤ maxLen ∧ ∀ l, l ∈ ls → ∃ g, shapeOk Try.prog g 34 l.value := by
  obtain ⟨m, rfl, hl, hf⟩ := shape_struct Try.underlying43 h
  rw [c43] at hl
  match xs, hl with
  | [a, b], _ =>
    have h0 := hf _ (List.mem_cons_self)
    have h1 := hf _ (List.mem_cons_of_mem _ List.mem_cons_self)
    simp only [c3, c41, List.drop_zero, List.drop_succ_cons, List.take_succ_cons, List.take_zero] at h0 h1
    obtain ⟨n, rows, _, e0, hmax, hr⟩ := shape_slice Try.underlying41 h0
    obtain ⟨k, e1, _⟩ := shape_int Try.underlying3 h1
    obtain ⟨ls, rfl, hls⟩ := rows_letters rows hr
    simp only [List.cons.injEq, and_true] at e0 e1
    exact ⟨ls, k, by rw [e0, e1], by simpa using hmax, hls⟩
end Go.Proofs.Ytofbhmcmejhepaa.P
namespace Go.Proofs.Ytofbhmcmejhepaa.boxFull
open Go.ChangeShapes Go.WideShapes Go.ChangeAt Go.RowKit
open Go.ChangeMaps (open_string shut_string)
open Go.Ab
theorem own : ownKnob Try.prog.godebug = none := by kernel_rfl
theorem laid : laidOutB Try.prog = true := by kernel_rfl

set_option maxRecDepth 100000 in
theorem lifted (os : Os) (started : os.Started) (H : Type) (enc : TypeId × Value → H) :
    ReturnsInHanded {} Try.checked os 6 .any (Rows.boxFullSpec.pre6 enc Try.prog Try.f6 Rows.boxFullRow.domain false) (Rows.boxFullSpec.post enc Try.prog Try.f6 false true false false) := by
  refine returnsInHanded_of_change_sized (C := Try.checked) own started (by kernel_rfl) Try.func6
    (ChangeSpec.witness6 (enc := enc) (C := Try.checked) false ⟨#[], #[.agg #[.slice none 0 0, .int .i64 0], .agg #[.int .i64 0, .int .i64 0, .int .i64 0, .int .i64 0, .string ByteArray.empty, .int .i64 0, .int .i64 0, .string ByteArray.empty, .slice none 0 0]], []⟩ 8 (by kernel_rfl) (by kernel_rfl) (by kernel_rfl) (by kernel_rfl)) ?_
  intro W base args ds gs before hval0 hW hcnd hsz0 _
  have hval : ∀ (j : Nat) t v, Try.f6.params[j]? = some t → args[j]? = some v → Value.okWide Try.prog W .any base t v := hval0
  have hW' := hW
  obtain ⟨p, q, hA0, hV, rfl, hfz, hnd⟩ := hW
  have hA : DataW.TrodAll enc Try.prog W 0 (fun _ => true) true Try.f6.params.toList args.toList ds p := hA0
  rw [Try.params6] at hA hval
  obtain ⟨v0, vs0, d0, ds0, p0, q0, hargs, rfl, rfl, h0, r0⟩ := trodAll_cons hA
  obtain ⟨v1, vs1, d1, ds1, p1, q1, rfl, rfl, rfl, h1, r1⟩ := trodAll_cons r0
  obtain ⟨rfl, rfl, rfl⟩ := trodAll_nil r1
  obtain rfl : args = #[v0, v1] := by cases args; simp_all
  obtain ⟨rfl, rfl⟩ := trodVars_none hV
  have hlt0 : ∀ x ∈ p0, x.block < W.heap.size := fun x hx => by simpa using hW'.lt x (by simp [hx])
  have hlt1 : ∀ x ∈ p1, x.block < W.heap.size := fun x hx => by simpa using hW'.lt x (by simp [hx])
  obtain ⟨xs, fuel, hv0, hsh⟩ := open_agg P.closed (by decide) Try.underlying43 (hval 0 43 v0 rfl rfl) h0
  obtain ⟨ls, pos, rfl, hmax, _⟩ := P.sh43 hsh
  obtain ⟨ys, fuel1, hv1, hsh1⟩ := open_agg P.closed (by decide) Try.underlying45 (hval 1 45 v1 rfl rfl) h1
  obtain ⟨x, g, rfl, _, hx⟩ := P.sh45 hsh1
  clear hA0 hval0 hsz0
  refine (Go.Ab.ACallP.walk (P.boxFull ls pos x hmax g hx) W #[v0, v1] rfl ?_).mono fun e W' ⟨⟨v, H', loc', he, hv⟩, bel⟩ => ?_
  · intro i v d g1 g2
    match i, g1, g2 with
    | 0, g1, g2 => simp at g1 g2; subst g1; subst g2; exact hv0
    | 1, g1, g2 => simp at g1 g2; subst g1; subst g2; exact hv1
    | i + 2, g1, g2 => simp at g1
  · subst he
    obtain rfl := hv.lit_inv
    exact ⟨_, rfl, _, _, _, [], _, [], hW', trodAll_mk1 (shut_bool Try.underlying4 _), (trodAll_cons_mk (Below.trod laid (by kernel_rfl) (of_decide_eq_true (by kernel_rfl)) h0 bel hlt0) (trodAll_cons_mk (Below.trod laid (by kernel_rfl) (of_decide_eq_true (by kernel_rfl)) h1 bel hlt1) trodAll_mk0)), rfl, bel.frame _, fun h => by cases h⟩
theorem over : Rows.boxFullRow.holds Try.pinned (OpenSpec.ofChange Rows.boxFullSpec) :=
  OpenClaim.holds_of_wide 6 Try.f6 rfl rfl rfl rfl rfl rfl rfl ⟨rfl, rfl, rfl, rfl, rfl⟩ rfl rfl rfl rfl rfl (by kernel_rfl) Try.func6 (by kernel_rfl)
    (of_decide_eq_true (by kernel_rfl)) (by unfold Func.isWrapper; first | (rw [if_pos (by decide +kernel)]; kernel_rfl) | (rw [if_neg (by decide +kernel)]; exact ⟨rfl, rfl⟩))
    (fun os started H enc _ => lifted os started H enc)
theorem proved : Rows.BoxFullSaid := over
#print axioms proved
end Go.Proofs.Ytofbhmcmejhepaa.boxFull
namespace Go.Proofs.Ytofbhmcmejhepaa
/-- The row, under a short name, for the claim. -/
theorem boxFull_holds : Rows.BoxFullSaid := boxFull.proved
end Go.Proofs.Ytofbhmcmejhepaa
