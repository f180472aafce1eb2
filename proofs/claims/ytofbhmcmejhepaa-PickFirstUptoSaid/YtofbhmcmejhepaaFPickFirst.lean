/- The statement PickFirst in its second form, out of the contract of its function. -/
import Derived.Test.YtofbhmcmejhepaaRows
import Derived.Test.YtofbhmcmejhepaaEB
import Derived.WalkKit
import Derived.ProofKit
import Derived.OpenShut
import Derived.ShutString
import Derived.ChangeOld
import Derived.Below
import Derived.SizedLaws
import Derived.Deep.CondSized
set_option linter.unusedSimpArgs false
set_option linter.unusedVariables false
set_option maxHeartbeats 1000000
namespace Go.Proofs.Ytofbhmcmejhepaa.pickFirst
open Go.ChangeShapes Go.WideShapes Go.ChangeAt Go.RowKit
open Go.ChangeMaps (open_string shut_string)
open Go.Ab
set_option linter.unusedVariables false
theorem own : ownKnob Try.prog.godebug = none := by kernel_rfl
theorem laid : laidOutB Try.prog = true := by kernel_rfl

theorem bulk1 {H : Type} (d : DataW H) : 1 ≤ Rows.uptoBulk d := by
  cases d with
  | lit l => cases l <;> simp [Rows.uptoBulk]
  | nil => simp [Rows.uptoBulk]
  | ptr d => simp [Rows.uptoBulk]
  | slice elems spare => simp [Rows.uptoBulk]
  | agg parts => simp [Rows.uptoBulk]
  | iface t d => simp [Rows.uptoBulk]
  | map entries => simp [Rows.uptoBulk]
  | held h => simp [Rows.uptoBulk]
theorem bulkSum {H : Type} (l : List (DataW H)) : (l.map Rows.uptoBulk).sum = Rows.uptoBulkAll l := by
  induction l with
  | nil => simp [Rows.uptoBulkAll]
  | cons d l ih => simp [Rows.uptoBulkAll, ih]
theorem bulkS {H : Type} (e s : List (DataW H)) : (e.map Rows.uptoBulk).sum + 1 ≤ Rows.uptoBulk (.slice e s) := by
  rw [bulkSum]; simp only [Rows.uptoBulk]; omega
theorem bulkA {H : Type} (e : List (DataW H)) : (e.map Rows.uptoBulk).sum + 1 ≤ Rows.uptoBulk (.agg e) := by
  rw [bulkSum]; simp only [Rows.uptoBulk]; omega

set_option maxRecDepth 100000 in
theorem lifted (os : Os) (started : os.Started) (H : Type) (enc : TypeId × Value → H) (F : Stop.Interp) :
    ReturnsInHanded {} Try.checked os 11 .any ((Rows.OpenSpec.upto Rows.pickFirstSpec).pre6 enc Try.prog Try.f11 Rows.pickFirstUptoRow.domain false) (((Rows.OpenSpec.upto Rows.pickFirstSpec).at F).post enc Try.prog Try.f11 false true false false) := by
  refine returnsInHanded_of_cond_sized (C := Try.checked) (s := Rows.OpenSpec.upto Rows.pickFirstSpec) (k := Rows.uptoSmall) rfl own started (by kernel_rfl) Try.func11
    (OpenSpec.witness (enc := enc) (C := Try.checked) (s := Rows.OpenSpec.upto Rows.pickFirstSpec) (k := Rows.uptoSmall) rfl false ⟨#[], #[.agg #[.slice none 0 0, .int .i64 0], .slice none 0 0], []⟩ 8 (by kernel_rfl) (by kernel_rfl) (by kernel_rfl)
      (x := ([.agg [.nil, .lit (.int .i64 0)], .nil], [], [])) (by kernel_rfl) rfl (by kernel_rfl)) ?_
  intro W base args ds gs before hval0 hW hcnd hk hsz0 _
  have hval : ∀ (j : Nat) t v, Try.f11.params[j]? = some t → args[j]? = some v → Value.okWide Try.prog W .any base t v := hval0
  have hW' := hW
  obtain ⟨p, q, hA0, hV, rfl, hfz, hnd⟩ := hW
  have hA : DataW.TrodAll enc Try.prog W 0 (fun _ => true) true Try.f11.params.toList args.toList ds p := hA0
  rw [Try.params11] at hA hval
  obtain ⟨v0, vs0, d0, ds0, p0, q0, hargs, rfl, rfl, h0, t0⟩ := trodAll_cons hA
  obtain ⟨v1, vs1, d1, ds1, p1, q1, rfl, rfl, rfl, h1, t1⟩ := trodAll_cons t0
  obtain ⟨rfl, rfl, rfl⟩ := trodAll_nil t1
  obtain rfl : args = #[v0, v1] := by cases args; simp_all
  obtain ⟨rfl, rfl⟩ := trodVars_none hV
  have hlt0 : ∀ x ∈ p0, x.block < W.heap.size := fun x hx => by simpa using hW'.lt x (by simp [hx])
  have hlt1 : ∀ x ∈ p1, x.block < W.heap.size := fun x hx => by simpa using hW'.lt x (by simp [hx])
  obtain ⟨x0, fuel0, hv0, hsh0⟩ := open_agg P.closed5 (by decide) Try.underlying43 (hval 0 43 v0 rfl rfl) h0 (weight_of (H := H) hsz0 (j := 0) (t := 43) (by simp [Try.params11]) rfl)
  obtain ⟨x1, fuel1, hv1, hsh1, hb1⟩ := open_sliceB bulk1 bulkS bulkA P.closed5 (by decide) Try.underlying55 (hval 1 55 v1 rfl rfl) h1 (weight_of (H := H) hsz0 (j := 1) (t := 55) (by simp [Try.params11]) rfl)
  have hk2 := of_decide_eq_true hk
  simp only [List.append_nil, Rows.uptoBulkAll] at hk2
  have hsmall : pvRow [x1] ≤ 1048576 := by omega
  clear hA0 hval0 hsz0 hk hk2
  obtain ⟨ls, pos, rfl, k0⟩ := P.sh43w hsh0
  obtain ⟨pl, e1, k1⟩ := P.sh55 hsh1 hsmall
  simp only [List.cons.injEq, and_true] at e1
  subst e1
  refine (Go.Ab.ACallP.walk (P.pickFirst ls pl pos k0.1 k0.2 k1.1 k1.2) W #[v0, v1] rfl ?_).mono fun e W' ⟨⟨v, H', loc', he, hv⟩, bel⟩ => ?_
  · intro i v d g1 g2
    match i, g1, g2 with
    | 0, g1, g2 => simp at g1 g2; subst g1; subst g2; exact hv0
    | 1, g1, g2 => simp at g1 g2; subst g1; subst g2; exact hv1
    | i + 2, g1, g2 => simp at g1
  · subst he
    obtain rfl := hv.lit_inv
    exact ⟨_, rfl, _, _, _, [], _, [], hW', trodAll_mk1 (shut_bool Try.underlying4 _), (trodAll_cons_mk (Below.trod laid (by kernel_rfl) (of_decide_eq_true (by kernel_rfl)) h0 bel hlt0) (trodAll_cons_mk (Below.trod laid (by kernel_rfl) (of_decide_eq_true (by kernel_rfl)) h1 bel hlt1) trodAll_mk0)), rfl, bel.frame _, fun h => by cases h⟩
theorem over : Rows.PickFirstUptoSaid :=
  OpenClaim.holds_of_cond 11 Try.f11 rfl rfl rfl rfl rfl rfl rfl ⟨rfl, rfl, rfl, rfl, rfl⟩ rfl rfl rfl rfl rfl (by kernel_rfl) Try.func11 (by kernel_rfl)
    (of_decide_eq_true (by kernel_rfl)) (by unfold Func.isWrapper; first | (rw [if_pos (by decide +kernel)]; kernel_rfl) | (rw [if_neg (by decide +kernel)]; exact ⟨rfl, rfl⟩))
    (fun os started H enc _ F => lifted os started H enc F)
theorem proved : Rows.PickFirstUptoSaid := over
#print axioms proved
end Go.Proofs.Ytofbhmcmejhepaa.pickFirst
namespace Go.Proofs.Ytofbhmcmejhepaa
/-- The row, under a short name, for the claim. -/
theorem pickFirst_holds : Rows.PickFirstUptoSaid := pickFirst.proved
end Go.Proofs.Ytofbhmcmejhepaa
