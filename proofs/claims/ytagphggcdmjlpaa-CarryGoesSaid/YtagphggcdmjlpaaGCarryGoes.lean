/- The statement CarryGoes, out of the contract of its function. -/
import Derived.Test.YtagphggcdmjlpaaRows
import Derived.Test.YtagphggcdmjlpaaKCarryGoes5
import Derived.WalkKit
import Derived.ProofKit
import Derived.OpenShut
import Derived.ShutString
import Derived.ChangeOld
import Derived.Below
import Derived.SizedLaws
set_option linter.unusedSimpArgs false
set_option linter.unusedVariables false
set_option maxHeartbeats 1000000
namespace Go.Proofs.Ytagphggcdmjlpaa.carryGoes
open Go.ChangeShapes Go.WideShapes Go.ChangeAt Go.RowKit
open Go.ChangeMaps (open_string shut_string)
open Go.Ab
set_option linter.unusedVariables false
theorem own : ownKnob Try.prog.godebug = none := by kernel_rfl
theorem laid : laidOutB Try.prog = true := by kernel_rfl

set_option maxRecDepth 100000 in
theorem lifted (os : Os) (started : os.Started) (H : Type) (enc : TypeId × Value → H) :
    ReturnsInHanded {} Try.checked os 7 .any (Rows.carryGoesSpec.pre6 enc Try.prog Try.f7 Rows.carryGoesRow.domain false) (Rows.carryGoesSpec.post enc Try.prog Try.f7 false true false false) := by
  refine returnsInHanded_of_change_sized (C := Try.checked) own started (by kernel_rfl) Try.func7
    (ChangeSpec.witness6 (enc := enc) (C := Try.checked) false ⟨#[], #[.slice none 0 0, .slice none 0 0, .int .u64 0], []⟩ 8 (by kernel_rfl) (by kernel_rfl) (by kernel_rfl) (by kernel_rfl)) ?_
  intro W base args ds gs before hval0 hW hcnd hsz0 _
  have hval : ∀ (j : Nat) t v, Try.f7.params[j]? = some t → args[j]? = some v → Value.okWide Try.prog W .any base t v := hval0
  have hW' := hW
  obtain ⟨p, q, hA0, hV, rfl, hfz, hnd⟩ := hW
  have hA : DataW.TrodAll enc Try.prog W 0 (fun _ => true) true Try.f7.params.toList args.toList ds p := hA0
  rw [Try.params7] at hA hval
  obtain ⟨v0, vs0, d0, ds0, p0, q0, hargs, rfl, rfl, h0, t0⟩ := trodAll_cons hA
  obtain ⟨v1, vs1, d1, ds1, p1, q1, rfl, rfl, rfl, h1, t1⟩ := trodAll_cons t0
  obtain ⟨v2, vs2, d2, ds2, p2, q2, rfl, rfl, rfl, h2, t2⟩ := trodAll_cons t1
  obtain ⟨rfl, rfl, rfl⟩ := trodAll_nil t2
  obtain rfl : args = #[v0, v1, v2] := by cases args; simp_all
  obtain ⟨rfl, rfl⟩ := trodVars_none hV
  have hlt0 : ∀ x ∈ p0, x.block < W.heap.size := fun x hx => by simpa using hW'.lt x (by simp [hx])
  have hlt1 : ∀ x ∈ p1, x.block < W.heap.size := fun x hx => by simpa using hW'.lt x (by simp [hx])
  obtain ⟨x0, fuel0, hv0, hsh0⟩ := open_slice P.closed (by decide) Try.underlying23 (hval 0 23 v0 rfl rfl) h0 (weight_of (H := H) hsz0 (j := 0) (t := 23) (by simp [Try.params7]) rfl)
  obtain ⟨l0, e0, k0⟩ := P.sh23 hsh0
  simp only [List.cons.injEq, and_true] at e0
  subst e0
  obtain ⟨x1, fuel1, hv1, hsh1⟩ := open_slice P.closed (by decide) Try.underlying23 (hval 1 23 v1 rfl rfl) h1 (weight_of (H := H) hsz0 (j := 1) (t := 23) (by simp [Try.params7]) rfl)
  obtain ⟨l1, e1, k1⟩ := P.sh23 hsh1
  simp only [List.cons.injEq, and_true] at e1
  subst e1
  obtain ⟨a2, rfl, rfl, rfl, w2⟩ := open_int Try.underlying34 (hval 2 34 v2 rfl rfl) h2
  clear hA0 hval0 hsz0
  refine (Go.Ab.ACallP.walk (P.carryGoes l0 l1 a2 k0.1 k1.1 k0.2 k1.2) W #[v0, v1, .int .u64 a2] rfl ?_).mono fun e W' ⟨⟨v, H', loc', he, hv⟩, bel⟩ => ?_
  · intro i v d g1 g2
    match i, g1, g2 with
    | 0, g1, g2 => simp at g1 g2; subst g1; subst g2; exact hv0
    | 1, g1, g2 => simp at g1 g2; subst g1; subst g2; exact hv1
    | 2, g1, g2 => simp at g1 g2; subst g1; subst g2; exact .p _ _ (.lit _)
    | i + 3, g1, g2 => simp at g1
  · subst he
    obtain rfl := hv.lit_inv
    exact ⟨_, rfl, _, _, _, [], _, [], hW', trodAll_mk1 (shut_bool Try.underlying4 _), (trodAll_cons_mk (Below.trod laid (by kernel_rfl) (of_decide_eq_true (by kernel_rfl)) h0 bel hlt0) (trodAll_cons_mk (Below.trod laid (by kernel_rfl) (of_decide_eq_true (by kernel_rfl)) h1 bel hlt1) (trodAll_cons_mk (shut_int Try.underlying34 w2) trodAll_mk0))), rfl, bel.frame _, fun h => by cases h⟩
theorem over : Rows.carryGoesRow.holds Try.pinned (OpenSpec.ofChange Rows.carryGoesSpec) :=
  OpenClaim.holds_of_wide 7 Try.f7 rfl rfl rfl rfl rfl rfl rfl ⟨rfl, rfl, rfl, rfl, rfl⟩ rfl rfl rfl rfl rfl (by kernel_rfl) Try.func7 (by kernel_rfl)
    (of_decide_eq_true (by kernel_rfl)) (by unfold Func.isWrapper; first | (rw [if_pos (by decide +kernel)]; kernel_rfl) | (rw [if_neg (by decide +kernel)]; exact ⟨rfl, rfl⟩))
    (fun os started H enc _ => lifted os started H enc)
theorem proved : Rows.CarryGoesSaid := over
#print axioms proved
end Go.Proofs.Ytagphggcdmjlpaa.carryGoes
namespace Go.Proofs.Ytagphggcdmjlpaa
/-- The row, under a short name, for the claim. -/
theorem carryGoes_holds : Rows.CarryGoesSaid := carryGoes.proved
end Go.Proofs.Ytagphggcdmjlpaa
