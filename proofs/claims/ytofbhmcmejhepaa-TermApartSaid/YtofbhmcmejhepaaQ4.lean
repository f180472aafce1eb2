/- The statement TermApart: two encoded words are equal if and only if their tags and their numbers are. -/
import Derived.Test.YtofbhmcmejhepaaRows
import Derived.Test.YtofbhmcmejhepaaQ3
import Derived.WalkKit
import Derived.ProofKit
import Derived.OpenShut
import Derived.ShutString
import Derived.ChangeOld
import Derived.Below
import Derived.SizedLaws
import Derived.Laws.BitsLemmas
set_option linter.unusedSimpArgs false
set_option linter.unusedVariables false
namespace Go.Proofs.Ytofbhmcmejhepaa.P
open Go.Ab Go.RowKit

theorem fits_lt {t n : Int} (h : fits t n = true) : 0 ≤ t ∧ t ≤ 4 ∧ -1152921504606846976 ≤ n ∧ n < 1152921504606846976 ∧ (t ≠ 1 → 0 ≤ n) := by
  simp [fits] at h
  omega

theorem wrapU (n : Int) : IntKind.u64.wrap n = n % 18446744073709551616 := by simp [IntKind.wrap, IntKind.bits, IntKind.signed]

/-- Eight times a number, joined with less than eight: the sum. -/
theorem wordOf_eq {t n : Int} (h0 : 0 ≤ t) (h1 : t < 8) : wordOf t n = (n * 8) % 18446744073709551616 + t := by
  unfold wordOf
  rw [wrapU, wrapU, wrapU]
  have e : n % 18446744073709551616 * 8 % 18446744073709551616 = n * 8 % 18446744073709551616 := by omega
  rw [e, show t % 18446744073709551616 = t by omega]
  have := bits_join .u64 64 (by decide) (fun n h0 h1 => by rw [wrapU]; omega) 3 (n * 8 % 18446744073709551616) t
  exact this (by omega) (by omega) (by omega) h0 (by omega) (by omega)

theorem wordS_snd (t n : Int) : (wordS t n).2 = 0 ↔ fits t n = true := by
  unfold wordS; split
  · simp [*]
  · split <;> simp [*]

theorem apart_true (s m t n : Int) : true = if (wordS s m).2 = 0 ∧ (wordS t n).2 = 0 then ((wordS s m).1 == (wordS t n).1) == (s == t && m == n) else true := by
  split
  · rename_i h
    rw [wordS_snd, wordS_snd] at h
    obtain ⟨h1, h2⟩ := h
    have a := fits_lt h1
    have b := fits_lt h2
    have e1 : (wordS s m).1 = (m * 8) % 18446744073709551616 + s := by unfold wordS; rw [if_pos h1]; exact wordOf_eq (by omega) (by omega)
    have e2 : (wordS t n).1 = (n * 8) % 18446744073709551616 + t := by unfold wordS; rw [if_pos h2]; exact wordOf_eq (by omega) (by omega)
    rw [e1, e2]
    by_cases hst : s = t ∧ m = n
    · obtain ⟨rfl, rfl⟩ := hst; simp
    · have : ¬ ((m * 8) % 18446744073709551616 + s = (n * 8) % 18446744073709551616 + t) := fun e => hst (by omega)
      have h3 : (s == t && m == n) = false := by
        simp only [Bool.and_eq_false_iff, beq_eq_false_iff_ne]
        by_cases h4 : s = t
        · exact .inr fun h5 => hst ⟨h4, h5⟩
        · exact .inl h4
      rw [h3]
      simpa using this
  · rfl

theorem apartTrue (s m t n : Int) : ACallP Try.prog 4 [iD s, iD m, iD t, iD n] (bD true) := apart s m t n true (apart_true s m t n)
end Go.Proofs.Ytofbhmcmejhepaa.P

namespace Go.Proofs.Ytofbhmcmejhepaa.termApart
open Go.ChangeShapes Go.WideShapes Go.ChangeAt Go.RowKit
open Go.ChangeMaps (open_string shut_string)
open Go.Ab (iD bD)
set_option linter.unusedVariables false
theorem own : ownKnob Try.prog.godebug = none := by kernel_rfl
set_option maxRecDepth 100000 in
theorem lifted (os : Os) (started : os.Started) (H : Type) (enc : TypeId × Value → H) :
    ReturnsInHanded {} Try.checked os 4 .any (Rows.termApartSpec.pre6 enc Try.prog Try.f4 Rows.termApartRow.domain false) (Rows.termApartSpec.post enc Try.prog Try.f4 false true false false) := by
  refine returnsInHanded_of_change_sized (C := Try.checked) own started (by kernel_rfl) Try.func4
    (ChangeSpec.witness6 (enc := enc) (C := Try.checked) false ⟨#[], #[.int .i64 0, .int .i64 0, .int .i64 0, .int .i64 0], []⟩ 8 (by kernel_rfl) (by kernel_rfl) (by kernel_rfl) (by kernel_rfl)) ?_
  intro W base args ds gs before hval0 hW hcnd hsz0 _
  have hsz : (DataW.weightsEach Try.prog (Try.f4.params.toList ++ Rows.termApartSpec.plain.varTypes Try.prog) (ds ++ gs)).all (· ≤ reachBytes) = true := hsz0
  have hval : ∀ (j : Nat) t v, Try.f4.params[j]? = some t → args[j]? = some v → Value.okWide Try.prog W .any base t v := hval0
  have hW' := hW
  obtain ⟨p, q, hA0, hV, rfl, hfz, hnd⟩ := hW
  have hA : DataW.TrodAll enc Try.prog W 0 (fun _ => true) true Try.f4.params.toList args.toList ds p := hA0
  rw [Try.params4] at hA hval hsz
  obtain ⟨v0, vs0, d0, ds0, p0, q0, hargs, rfl, rfl, h0, r0⟩ := trodAll_cons hA
  obtain ⟨v1, vs1, d1, ds1, p1, q1, rfl, rfl, rfl, h1, r1⟩ := trodAll_cons r0
  obtain ⟨v2, vs2, d2, ds2, p2, q2, rfl, rfl, rfl, h2, r2⟩ := trodAll_cons r1
  obtain ⟨v3, vs3, d3, ds3, p3, q3, rfl, rfl, rfl, h3, r3⟩ := trodAll_cons r2
  obtain ⟨rfl, rfl, rfl⟩ := trodAll_nil r3
  obtain rfl : args = #[v0, v1, v2, v3] := by cases args; simp_all
  obtain ⟨rfl, rfl⟩ := trodVars_none hV
  obtain ⟨a0, rfl, rfl, rfl, w0⟩ := open_int Try.underlying3 (hval 0 3 v0 rfl rfl) h0
  obtain ⟨a1, rfl, rfl, rfl, w1⟩ := open_int Try.underlying3 (hval 1 3 v1 rfl rfl) h1
  obtain ⟨a2, rfl, rfl, rfl, w2⟩ := open_int Try.underlying3 (hval 2 3 v2 rfl rfl) h2
  obtain ⟨a3, rfl, rfl, rfl, w3⟩ := open_int Try.underlying3 (hval 3 3 v3 rfl rfl) h3
  clear hA0 hval0 hsz0 hsz
  refine (Go.Ab.ACallP.walk (P.apartTrue a0 a1 a2 a3) W #[.int .i64 a0, .int .i64 a1, .int .i64 a2, .int .i64 a3] rfl ?_).mono fun e W' ⟨⟨v, H', loc', he, hv⟩, bel⟩ => ?_
  · exact Go.Ab.lits_V [.int .i64 a0, .int .i64 a1, .int .i64 a2, .int .i64 a3]
  · subst he
    obtain rfl := hv.lit_inv
    exact ⟨_, rfl, _, _, _, [], _, [], hW', trodAll_mk1 (shut_bool Try.underlying4 _), (trodAll_cons_mk (shut_int Try.underlying3 w0) (trodAll_cons_mk (shut_int Try.underlying3 w1) (trodAll_cons_mk (shut_int Try.underlying3 w2) (trodAll_cons_mk (shut_int Try.underlying3 w3) trodAll_mk0)))), rfl, bel.frame _, fun h => by cases h⟩
theorem over : Rows.termApartRow.holds Try.pinned (OpenSpec.ofChange Rows.termApartSpec) :=
  OpenClaim.holds_of_wide 4 Try.f4 rfl rfl rfl rfl rfl rfl rfl ⟨rfl, rfl, rfl, rfl, rfl⟩ rfl rfl rfl rfl rfl (by kernel_rfl) Try.func4 (by kernel_rfl)
    (of_decide_eq_true (by kernel_rfl)) (by unfold Func.isWrapper; first | (rw [if_pos (by decide +kernel)]; kernel_rfl) | (rw [if_neg (by decide +kernel)]; exact ⟨rfl, rfl⟩))
    (fun os started H enc _ => lifted os started H enc)
theorem proved : Rows.TermApartSaid := over
#print axioms proved
end Go.Proofs.Ytofbhmcmejhepaa.termApart
namespace Go.Proofs.Ytofbhmcmejhepaa
/-- The row, under a short name, for the claim. -/
theorem termApart_holds : Rows.TermApartSaid := termApart.proved
end Go.Proofs.Ytofbhmcmejhepaa
