/- NodeWatches: whatever its arguments it says true. -/
import Derived.Test.YtlffgjppnbhahaaGreatWB
import Derived.Test.YtlffgjppnbhahaaGreatWA0
import Derived.Test.YtlffgjppnbhahaaGreatWA1
import Derived.Test.YtlffgjppnbhahaaGreatWA2
import Derived.Test.YtlffgjppnbhahaaGreatWA3
set_option linter.unusedSimpArgs false
set_option linter.unusedVariables false
set_option maxHeartbeats 1000000
namespace Go.Cx

/-- What the symbols stand for: a number; the same, unsigned. -/
def rhoW (n : Int) : Nat → Int
  | 0 => n
  | 1 => IntKind.u64.wrap n
  | _ => 0

theorem oraW (n : Int) : OraOk (rhoW n) (orW ((IntKind.u64.wrap n).tmod 5)) := by
  intro op x y v h
  unfold orW at h
  split at h
  · split at h
    · rename_i k
      split at h
      · rename_i m
        cases hk : Nat.beq k 0 with
        | false => rw [hk] at h; cases h
        | true =>
          rw [hk] at h
          cases h
          have := Nat.eq_of_beq_eq_true hk
          subst this
          exact ⟨fun hne => (hne rfl).elim, fun _ => ⟨0, .u64, m, rfl, rfl, .inr ⟨1, rfl, rfl⟩⟩⟩
      · cases h
    · cases h
  · split at h
    · rename_i k
      split at h
      · rename_i m
        cases hk : (Nat.beq k 1 && decide (m = 5)) with
        | false => rw [hk] at h; cases h
        | true =>
          rw [hk] at h
          cases h
          rw [Bool.and_eq_true] at hk
          have h1 := Nat.eq_of_beq_eq_true hk.1
          have h2 : m = 5 := by simpa using hk.2
          subst h1 h2
          exact ⟨fun _ => ⟨.u64, IntKind.u64.wrap n, 5, _, rfl, rfl, .inl rfl, rfl⟩, fun he => by cases he⟩
      · cases h
    · cases h
  · cases h

theorem left5 (n : Int) : (IntKind.u64.wrap n).tmod 5 = 0 ∨ (IntKind.u64.wrap n).tmod 5 = 1 ∨ (IntKind.u64.wrap n).tmod 5 = 2 ∨ (IntKind.u64.wrap n).tmod 5 = 3 ∨ (IntKind.u64.wrap n).tmod 5 = 4 := by
  have h : IntKind.u64.wrap n = n % 18446744073709551616 := by simp [IntKind.wrap, IntKind.bits, IntKind.signed]
  rw [h, Int.tmod_eq_emod_of_nonneg (by omega)]
  omega

theorem runW_all (b : Bool) (n : Int) : runW b ((IntKind.u64.wrap n).tmod 5) = true := by
  rcases left5 n with h | h | h | h | h <;> rw [h] <;> cases b
  · exact runW_f0
  · exact runW_t0
  · exact runW_f1
  · exact runW_t1
  · exact runW_f2
  · exact runW_t2
  · exact runW_f3
  · exact runW_t3
  · exact runW_f4
  · exact runW_t4

theorem watches (b : Bool) (n : Int) (w : World) : Calls Go.Proofs.Tryz.prog 4 #[.bool b, .int .i64 n] w fun e w' => e = .returned (.bool true) ∧ Go.RowKit.Below w.heap.size w w' :=
  call_true (ρ := rhoW n) mixed_prog dsts_prog (oraW n) none_sum (runW_all b n) w _ (.cons (by simp [V]) (.cons (by simp only [V]; rfl) .nil))

end Go.Cx
