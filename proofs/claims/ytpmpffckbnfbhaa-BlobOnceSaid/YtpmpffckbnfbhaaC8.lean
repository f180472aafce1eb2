/- The statement BlobOnce: a text that is held twice has one entry, and its bytes are counted once. -/
import Derived.Test.YtpmpffckbnfbhaaRows
import Derived.Test.YtpmpffckbnfbhaaC7
import Derived.WalkKit
import Derived.ProofKit
import Derived.OpenShut
import Derived.ShutString
import Derived.ChangeOld
import Derived.Below
import Derived.SizedLaws
set_option linter.unusedSimpArgs false
set_option linter.unusedVariables false
namespace Go.Proofs.Ytpmpffckbnfbhaa.P
open Go.Ab

theorem closed : closedT Try.prog [3, 9, 23, 40] = true := by kernel_rfl
theorem c40 : Try.prog.cellsOf 40 = 2 := by kernel_rfl
theorem c3 : Try.prog.cellsOf 3 = 1 := by kernel_rfl
theorem c9 : Try.prog.cellsOf 9 = 1 := by kernel_rfl

set_option maxRecDepth 100000 in
theorem sh40 {f : Nat} {xs : List PV} (h : shapeOk Try.prog f 40 xs) : ∃ b : Blob, xs = b.row := by
  obtain ⟨m, rfl, hl, hf⟩ := shape_struct Try.underlying40 h
  rw [c40] at hl
  match xs, hl with
  | [a, b], _ =>
    have h0 := hf _ (List.mem_cons_self)
    have h1 := hf _ (List.mem_cons_of_mem _ List.mem_cons_self)
    simp only [c3, c9, List.drop_zero, List.drop_succ_cons, List.take_succ_cons, List.take_zero] at h0 h1
    obtain ⟨s, e0, _⟩ := shape_string Try.underlying9 h0
    obtain ⟨k, e1, _⟩ := shape_int Try.underlying3 h1
    simp only [List.cons.injEq, and_true] at e0 e1
    exact ⟨⟨s, k⟩, by rw [e0, e1]; rfl⟩

theorem rows_blobs {f : Nat} : ∀ (rows : List (List PV)), (∀ r, r ∈ rows → r.length = Try.prog.cellsOf 40 ∧ shapeOk Try.prog f 40 r) → ∃ ls : List Blob, rows = ls.map Blob.row
  | [], _ => ⟨[], rfl⟩
  | r :: rows, h => by
    obtain ⟨x, rfl⟩ := sh40 (h r List.mem_cons_self).2
    obtain ⟨ls, rfl⟩ := rows_blobs rows fun r hr => h r (List.mem_cons_of_mem _ hr)
    exact ⟨x :: ls, rfl⟩

/-- A store that is handed over. -/
theorem open_store {H : Type} {enc : TypeId × Value → H} {W : World} {b0 : Nat} {v : Value} {d : DataW H} {ps : List MemPlace} (hval : Value.okWide Try.prog W .any b0 23 v) (h : DataW.Trod enc Try.prog W 0 (fun _ => true) true 23 v d ps) :
    ∃ ls : List Blob, V (hvOf W) (fun _ => ⟨0, 0, 0, false⟩) [] v (blobs ls) ∧ ls.length ≤ maxLen := by
  obtain ⟨a, len, cap, rfl⟩ := Go.WideShapes.okWide_slice Try.underlying23 hval
  obtain ⟨fuel, h⟩ := h
  obtain ⟨xs, ⟨a1, a2⟩, a3⟩ := trod_pv closed fuel 23 _ _ (by decide) h
  obtain ⟨n, rows, _, rfl, hmax, hr⟩ := shape_slice Try.underlying23 a3
  obtain ⟨ls, rfl⟩ := rows_blobs rows hr
  exact ⟨ls, .p _ _ (a2 0 _ _ rfl rfl).2, by simpa using hmax⟩
end Go.Proofs.Ytpmpffckbnfbhaa.P
namespace Go.Proofs.Ytpmpffckbnfbhaa.blobOnce
open Go.ChangeShapes Go.WideShapes Go.ChangeAt Go.RowKit
open Go.ChangeMaps (open_string shut_string)
open Go.Ab
theorem own : ownKnob Try.prog.godebug = none := by kernel_rfl
theorem laid : laidOutB Try.prog = true := by kernel_rfl

set_option maxRecDepth 100000 in
theorem lifted (os : Os) (started : os.Started) (H : Type) (enc : TypeId × Value → H) :
    ReturnsInHanded {} Try.checked os 3 .any (Rows.blobOnceSpec.pre6 enc Try.prog Try.f3 Rows.blobOnceRow.domain false) (Rows.blobOnceSpec.post enc Try.prog Try.f3 false true false false) := by
  refine returnsInHanded_of_change_sized (C := Try.checked) own started (by kernel_rfl) Try.func3
    (ChangeSpec.witness6 (enc := enc) (C := Try.checked) false ⟨#[], #[.slice none 0 0, .string ByteArray.empty], []⟩ 8 (by kernel_rfl) (by kernel_rfl) (by kernel_rfl) (by kernel_rfl)) ?_
  intro W base args ds gs before hval0 hW hcnd hsz0 _
  have hval : ∀ (j : Nat) t v, Try.f3.params[j]? = some t → args[j]? = some v → Value.okWide Try.prog W .any base t v := hval0
  have hW' := hW
  obtain ⟨p, q, hA0, hV, rfl, hfz, hnd⟩ := hW
  have hA : DataW.TrodAll enc Try.prog W 0 (fun _ => true) true Try.f3.params.toList args.toList ds p := hA0
  rw [Try.params3] at hA hval
  obtain ⟨v0, vs0, d0, ds0, p0, q0, hargs, rfl, rfl, h0, r0⟩ := trodAll_cons hA
  obtain ⟨v1, vs1, d1, ds1, p1, q1, rfl, rfl, rfl, h1, r1⟩ := trodAll_cons r0
  obtain ⟨rfl, rfl, rfl⟩ := trodAll_nil r1
  obtain rfl : args = #[v0, v1] := by cases args; simp_all
  obtain ⟨rfl, rfl⟩ := trodVars_none hV
  have hlt0 : ∀ x ∈ p0, x.block < W.heap.size := fun x hx => by simpa using hW'.lt x (by simp [hx])
  obtain ⟨ls, hv0, hmax⟩ := P.open_store (hval 0 23 v0 rfl rfl) h0
  obtain ⟨s, rfl, rfl, rfl, w1⟩ := open_string Try.underlying9 (hval 1 9 v1 rfl rfl) h1
  clear hA0 hval0 hsz0
  refine (Go.Ab.ACallP.walk (P.onceTrue ls s hmax) W #[v0, .string s] rfl ?_).mono fun e W' ⟨⟨v, H', loc', he, hv⟩, bel⟩ => ?_
  · intro i v d g1 g2
    match i, g1, g2 with
    | 0, g1, g2 => simp at g1 g2; subst g1; subst g2; exact hv0
    | 1, g1, g2 => simp at g1 g2; subst g1; subst g2; exact .p _ _ (.lit _)
    | i + 2, g1, g2 => simp at g1
  · subst he
    obtain rfl := hv.lit_inv
    exact ⟨_, rfl, _, _, _, [], _, [], hW', trodAll_mk1 (shut_bool Try.underlying4 _), (trodAll_cons_mk (Below.trod laid (by kernel_rfl) (of_decide_eq_true (by kernel_rfl)) h0 bel hlt0) (trodAll_cons_mk (shut_string Try.underlying9 w1) trodAll_mk0)), rfl, bel.frame _, fun h => by cases h⟩
theorem over : Rows.blobOnceRow.holds Try.pinned (OpenSpec.ofChange Rows.blobOnceSpec) :=
  OpenClaim.holds_of_wide 3 Try.f3 rfl rfl rfl rfl rfl rfl rfl ⟨rfl, rfl, rfl, rfl, rfl⟩ rfl rfl rfl rfl rfl (by kernel_rfl) Try.func3 (by kernel_rfl)
    (of_decide_eq_true (by kernel_rfl)) (by unfold Func.isWrapper; first | (rw [if_pos (by decide +kernel)]; kernel_rfl) | (rw [if_neg (by decide +kernel)]; exact ⟨rfl, rfl⟩))
    (fun os started H enc _ => lifted os started H enc)
theorem proved : Rows.BlobOnceSaid := over
#print axioms proved
end Go.Proofs.Ytpmpffckbnfbhaa.blobOnce
namespace Go.Proofs.Ytpmpffckbnfbhaa
/-- The row, under a short name, for the claim. -/
theorem blobOnce_holds : Rows.BlobOnceSaid := blobOnce.proved
end Go.Proofs.Ytpmpffckbnfbhaa
