/- The statement HeapOwn, out of the contract of its function. -/
import Derived.Test.YtagphggcdmjlpaaRows
import Derived.Test.YtagphggcdmjlpaaKHeapOwn6
import Derived.WalkKit
import Derived.ProofKit
import Derived.OpenShut
import Derived.ShutString
import Derived.ChangeOld
import Derived.Below
import Derived.SizedLaws
set_option linter.unusedSimpArgs false
set_option linter.unusedVariables false
set_option maxHeartbeats 1000000
namespace Go.Proofs.Ytagphggcdmjlpaa.heapOwn
open Go.ChangeShapes Go.WideShapes Go.ChangeAt Go.RowKit
open Go.ChangeMaps (open_string shut_string)
open Go.Ab
set_option linter.unusedVariables false
theorem own : ownKnob Try.prog.godebug = none := by kernel_rfl
theorem laid : laidOutB Try.prog = true := by kernel_rfl

set_option maxRecDepth 100000 in
theorem lifted (os : Os) (started : os.Started) (H : Type) (enc : TypeId × Value → H) :
    ReturnsInHanded {} Try.checked os 14 .any (Rows.heapOwnSpec.pre6 enc Try.prog Try.f14 Rows.heapOwnRow.domain false) (Rows.heapOwnSpec.post enc Try.prog Try.f14 false true false false) := by
  refine returnsInHanded_of_change_sized (C := Try.checked) own started (by kernel_rfl) Try.func14
    (ChangeSpec.witness6 (enc := enc) (C := Try.checked) false ⟨#[], #[.slice none 0 0, .agg #[.int .i64 0, .int .i64 0, .int .i64 0, .string ByteArray.empty, .slice none 0 0], .agg #[.slice none 0 0, .int .i64 0, .slice none 0 0], .slice none 0 0, .int .i64 0, .slice none 0 0, .string ByteArray.empty], []⟩ 8 (by kernel_rfl) (by kernel_rfl) (by kernel_rfl) (by kernel_rfl)) ?_
  intro W base args ds gs before hval0 hW hcnd hsz0 _
  have hval : ∀ (j : Nat) t v, Try.f14.params[j]? = some t → args[j]? = some v → Value.okWide Try.prog W .any base t v := hval0
  have hW' := hW
  obtain ⟨p, q, hA0, hV, rfl, hfz, hnd⟩ := hW
  have hA : DataW.TrodAll enc Try.prog W 0 (fun _ => true) true Try.f14.params.toList args.toList ds p := hA0
  rw [Try.params14] at hA hval
  obtain ⟨v0, vs0, d0, ds0, p0, q0, hargs, rfl, rfl, h0, t0⟩ := trodAll_cons hA
  obtain ⟨v1, vs1, d1, ds1, p1, q1, rfl, rfl, rfl, h1, t1⟩ := trodAll_cons t0
  obtain ⟨v2, vs2, d2, ds2, p2, q2, rfl, rfl, rfl, h2, t2⟩ := trodAll_cons t1
  obtain ⟨v3, vs3, d3, ds3, p3, q3, rfl, rfl, rfl, h3, t3⟩ := trodAll_cons t2
  obtain ⟨v4, vs4, d4, ds4, p4, q4, rfl, rfl, rfl, h4, t4⟩ := trodAll_cons t3
  obtain ⟨v5, vs5, d5, ds5, p5, q5, rfl, rfl, rfl, h5, t5⟩ := trodAll_cons t4
  obtain ⟨v6, vs6, d6, ds6, p6, q6, rfl, rfl, rfl, h6, t6⟩ := trodAll_cons t5
  obtain ⟨rfl, rfl, rfl⟩ := trodAll_nil t6
  obtain rfl : args = #[v0, v1, v2, v3, v4, v5, v6] := by cases args; simp_all
  obtain ⟨rfl, rfl⟩ := trodVars_none hV
  have hlt0 : ∀ x ∈ p0, x.block < W.heap.size := fun x hx => by simpa using hW'.lt x (by simp [hx])
  have hlt1 : ∀ x ∈ p1, x.block < W.heap.size := fun x hx => by simpa using hW'.lt x (by simp [hx])
  have hlt2 : ∀ x ∈ p2, x.block < W.heap.size := fun x hx => by simpa using hW'.lt x (by simp [hx])
  have hlt3 : ∀ x ∈ p3, x.block < W.heap.size := fun x hx => by simpa using hW'.lt x (by simp [hx])
  have hlt5 : ∀ x ∈ p5, x.block < W.heap.size := fun x hx => by simpa using hW'.lt x (by simp [hx])
  obtain ⟨x0, fuel0, hv0, hsh0⟩ := open_slice P4.closed (by decide) Try.underlying23 (hval 0 23 v0 rfl rfl) h0 (weight_of (H := H) hsz0 (j := 0) (t := 23) (by simp [Try.params14]) rfl)
  obtain ⟨l0, e0, k0⟩ := P4.sh23 hsh0
  simp only [List.cons.injEq, and_true] at e0
  subst e0
  obtain ⟨x1, fuel1, hv1, hsh1⟩ := open_agg P4.closed (by decide) Try.underlying30 (hval 1 30 v1 rfl rfl) h1 (weight_of (H := H) hsz0 (j := 1) (t := 30) (by simp [Try.params14]) rfl)
  obtain ⟨r1, rfl, k1⟩ := P4.sh30 hsh1
  obtain ⟨x2, fuel2, hv2, hsh2⟩ := open_agg P4.closed (by decide) Try.underlying64 (hval 2 64 v2 rfl rfl) h2 (weight_of (H := H) hsz0 (j := 2) (t := 64) (by simp [Try.params14]) rfl)
  obtain ⟨r2, rfl, k2⟩ := P4.sh64 hsh2
  obtain ⟨x3, fuel3, hv3, hsh3⟩ := open_slice P4.closed (by decide) Try.underlying22 (hval 3 22 v3 rfl rfl) h3 (weight_of (H := H) hsz0 (j := 3) (t := 22) (by simp [Try.params14]) rfl)
  obtain ⟨l3, e3, k3⟩ := P4.sh22 hsh3
  simp only [List.cons.injEq, and_true] at e3
  subst e3
  obtain ⟨a4, rfl, rfl, rfl, w4⟩ := open_int Try.underlying3 (hval 4 3 v4 rfl rfl) h4
  obtain ⟨x5, fuel5, hv5, hsh5⟩ := open_slice P4.closed (by decide) Try.underlying82 (hval 5 82 v5 rfl rfl) h5 (weight_of (H := H) hsz0 (j := 5) (t := 82) (by simp [Try.params14]) rfl)
  obtain ⟨l5, e5, k5⟩ := P4.sh82 hsh5
  simp only [List.cons.injEq, and_true] at e5
  subst e5
  obtain ⟨s6, rfl, rfl, rfl, w6⟩ := open_string Try.underlying9 (hval 6 9 v6 rfl rfl) h6
  clear hA0 hval0 hsz0
  refine (Go.Ab.ACallP.walk (B.heapOwnF l0 r1 r2 l3 a4 l5 s6 k0.2.2 k0.2.1 k2 k5.2.2) W #[v0, v1, v2, v3, .int .i64 a4, v5, .string s6] rfl ?_).mono fun e W' ⟨⟨v, H', loc', he, hv⟩, bel⟩ => ?_
  · intro i v d g1 g2
    match i, g1, g2 with
    | 0, g1, g2 => simp at g1 g2; subst g1; subst g2; exact hv0
    | 1, g1, g2 => simp at g1 g2; subst g1; subst g2; exact hv1
    | 2, g1, g2 => simp at g1 g2; subst g1; subst g2; exact hv2
    | 3, g1, g2 => simp at g1 g2; subst g1; subst g2; exact hv3
    | 4, g1, g2 => simp at g1 g2; subst g1; subst g2; exact .p _ _ (.lit _)
    | 5, g1, g2 => simp at g1 g2; subst g1; subst g2; exact hv5
    | 6, g1, g2 => simp at g1 g2; subst g1; subst g2; exact .p _ _ (.lit _)
    | i + 7, g1, g2 => simp at g1
  · subst he
    obtain rfl := hv.lit_inv
    exact ⟨_, rfl, _, _, _, [], _, [], hW', trodAll_mk1 (shut_bool Try.underlying4 _), (trodAll_cons_mk (Below.trod laid (by kernel_rfl) (of_decide_eq_true (by kernel_rfl)) h0 bel hlt0) (trodAll_cons_mk (Below.trod laid (by kernel_rfl) (of_decide_eq_true (by kernel_rfl)) h1 bel hlt1) (trodAll_cons_mk (Below.trod laid (by kernel_rfl) (of_decide_eq_true (by kernel_rfl)) h2 bel hlt2) (trodAll_cons_mk (Below.trod laid (by kernel_rfl) (of_decide_eq_true (by kernel_rfl)) h3 bel hlt3) (trodAll_cons_mk (shut_int Try.underlying3 w4) (trodAll_cons_mk (Below.trod laid (by kernel_rfl) (of_decide_eq_true (by kernel_rfl)) h5 bel hlt5) (trodAll_cons_mk (shut_string Try.underlying9 w6) trodAll_mk0))))))), rfl, bel.frame _, fun h => by cases h⟩
theorem over : Rows.heapOwnRow.holds Try.pinned (OpenSpec.ofChange Rows.heapOwnSpec) :=
  OpenClaim.holds_of_wide 14 Try.f14 rfl rfl rfl rfl rfl rfl rfl ⟨rfl, rfl, rfl, rfl, rfl⟩ rfl rfl rfl rfl rfl (by kernel_rfl) Try.func14 (by kernel_rfl)
    (of_decide_eq_true (by kernel_rfl)) (by unfold Func.isWrapper; first | (rw [if_pos (by decide +kernel)]; kernel_rfl) | (rw [if_neg (by decide +kernel)]; exact ⟨rfl, rfl⟩))
    (fun os started H enc _ => lifted os started H enc)
theorem proved : Rows.HeapOwnSaid := over
#print axioms proved
end Go.Proofs.Ytagphggcdmjlpaa.heapOwn
namespace Go.Proofs.Ytagphggcdmjlpaa
/-- The row, under a short name, for the claim. -/
theorem heapOwn_holds : Rows.HeapOwnSaid := heapOwn.proved
end Go.Proofs.Ytagphggcdmjlpaa
