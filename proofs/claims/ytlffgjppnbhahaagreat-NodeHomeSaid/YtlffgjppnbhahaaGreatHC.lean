/- NodeHome: whatever its arguments it says true. -/
import Derived.Test.YtlffgjppnbhahaaGreatHA0
import Derived.Test.YtlffgjppnbhahaaGreatHA1
import Derived.Test.YtlffgjppnbhahaaGreatHA2
import Derived.Test.YtlffgjppnbhahaaGreatHA3
set_option linter.unusedSimpArgs false
set_option linter.unusedVariables false
set_option maxHeartbeats 1000000
namespace Go.Cx

/-- What the symbols stand for. -/
def rhoH (n ref a b : Int) : Nat → Int
  | 0 => n
  | 1 => IntKind.u64.wrap n
  | 2 => ref
  | 4 => a
  | 6 => b
  | _ => 0

def In64 (n : Int) : Prop := -9223372036854775808 ≤ n ∧ n ≤ 9223372036854775807

theorem knH_ok {n ref a b : Int} (hn : In64 n) (ha : In64 a) {kr kb : Kn} (h1 : kr.fits ref) (h2 : kb.fits b) (k : Nat) : (KnH kr kb k).fits (rhoH n ref a b k) := by
  have hw : IntKind.u64.wrap n = n % 18446744073709551616 := by simp [IntKind.wrap, IntKind.bits, IntKind.signed]
  unfold In64 at hn ha
  match k with
  | 2 => exact h1
  | 6 => exact h2
  | 0 => exact ⟨by simp only [rhoH, KnH]; omega, by simp only [rhoH, KnH]; omega, fun x hx => by cases hx⟩
  | 1 => exact ⟨by simp only [rhoH, KnH]; omega, by simp only [rhoH, KnH]; omega, fun x hx => by cases hx⟩
  | 4 => exact ⟨by simp only [rhoH, KnH]; omega, by simp only [rhoH, KnH]; omega, fun x hx => by cases hx⟩
  | 3 => exact ⟨by simp [rhoH, KnH], by simp [rhoH, KnH], fun x hx => by cases hx⟩
  | 5 => exact ⟨by simp [rhoH, KnH], by simp [rhoH, KnH], fun x hx => by cases hx⟩
  | k + 7 => exact ⟨by simp [rhoH, KnH], by simp [rhoH, KnH], fun x hx => by cases hx⟩

theorem big_fits {n : Int} (h : In64 n) : big.fits n := ⟨h.1, h.2, fun x hx => by cases hx⟩
theorem just_fits (n : Int) : (just n).fits n := ⟨Int.le_refl _, Int.le_refl _, fun x hx => by cases hx⟩

/-- From a run to a call. -/
theorem home_of {n ref a b : Int} (hn : In64 n) (ha : In64 a) {kr kb : Kn} (h1 : kr.fits ref) (h2 : kb.fits b) {r : Int} (hr : (IntKind.u64.wrap n).tmod 8 = r) (h : runH kr kb r = true) (w : World) :
    Calls Go.Proofs.Tryz.prog 5 #[.int .i64 n, .int .i64 ref, .int .i64 a, .int .i64 b] w fun e w' => e = .returned (.bool true) ∧ Go.RowKit.Below w.heap.size w w' :=
  call_true (ρ := rhoH n ref a b) mixed_prog dsts_prog (orK_ok (fun k => knH_ok hn ha h1 h2 k) rfl (by decide) hr) sumN h w _
    (.cons (by simp only [V]; rfl) (.cons (by simp only [V]; rfl) (.cons (by simp only [V]; rfl) (.cons (by simp only [V]; rfl) .nil))))

/-- All cases of one remainder. -/
theorem home_case {n ref a b : Int} (hn : In64 n) (hf : In64 ref) (ha : In64 a) (hb : In64 b) {r me : Int} (hr : (IntKind.u64.wrap n).tmod 8 = r) (h0 : 0 ≤ r) (h7 : r ≤ 7)
    (c1 : runH (just me) big r = true) (c2 : runH (just 0) big r = true) (c3 : runH (just (-1)) big r = true) (c4 : runH ⟨big.lo, big.hi, [me, 0, -1]⟩ ⟨big.lo, 0, []⟩ r = true) (c5 : runH ⟨big.lo, big.hi, [me, 0, -1]⟩ ⟨9, big.hi, []⟩ r = true)
    (c6 : runH ⟨big.lo, big.hi, [me, 0, -1]⟩ (just (r + 1)) r = true) (c7 : runH ⟨big.lo, big.hi, [me, 0, -1]⟩ ⟨1, 8, [r + 1]⟩ r = true) (w : World) :
    Calls Go.Proofs.Tryz.prog 5 #[.int .i64 n, .int .i64 ref, .int .i64 a, .int .i64 b] w fun e w' => e = .returned (.bool true) ∧ Go.RowKit.Below w.heap.size w w' := by
  by_cases e1 : ref = me
  · subst e1; exact home_of hn ha (just_fits _) (big_fits hb) hr c1 w
  by_cases e2 : ref = 0
  · subst e2; exact home_of hn ha (just_fits _) (big_fits hb) hr c2 w
  by_cases e3 : ref = -1
  · subst e3; exact home_of hn ha (just_fits _) (big_fits hb) hr c3 w
  have hk : (⟨big.lo, big.hi, [me, 0, -1]⟩ : Kn).fits ref := ⟨hf.1, hf.2, fun x hx => by
    simp at hx
    rcases hx with rfl | rfl | rfl
    · exact e1
    · exact e2
    · exact e3⟩
  by_cases f1 : b ≤ 0
  · exact home_of hn ha hk ⟨hb.1, f1, fun x hx => by cases hx⟩ hr c4 w
  by_cases f2 : 9 ≤ b
  · exact home_of hn ha hk ⟨f2, hb.2, fun x hx => by cases hx⟩ hr c5 w
  by_cases f3 : b = r + 1
  · subst f3; exact home_of hn ha hk (just_fits _) hr c6 w
  · exact home_of hn ha hk ⟨by show (1 : Int) ≤ b; omega, by show b ≤ 8; omega, fun x hx => by simp at hx; subst hx; exact f3⟩ hr c7 w

theorem left8 (n : Int) : (IntKind.u64.wrap n).tmod 8 = 0 ∨ (IntKind.u64.wrap n).tmod 8 = 1 ∨ (IntKind.u64.wrap n).tmod 8 = 2 ∨ (IntKind.u64.wrap n).tmod 8 = 3 ∨ (IntKind.u64.wrap n).tmod 8 = 4 ∨ (IntKind.u64.wrap n).tmod 8 = 5 ∨ (IntKind.u64.wrap n).tmod 8 = 6 ∨ (IntKind.u64.wrap n).tmod 8 = 7 := by
  have h : IntKind.u64.wrap n = n % 18446744073709551616 := by simp [IntKind.wrap, IntKind.bits, IntKind.signed]
  rw [h, Int.tmod_eq_emod_of_nonneg (by omega)]
  omega

theorem home (n ref a b : Int) (hn : In64 n) (hf : In64 ref) (ha : In64 a) (hb : In64 b) (w : World) :
    Calls Go.Proofs.Tryz.prog 5 #[.int .i64 n, .int .i64 ref, .int .i64 a, .int .i64 b] w fun e w' => e = .returned (.bool true) ∧ Go.RowKit.Below w.heap.size w w' := by
  rcases left8 n with h | h | h | h | h | h | h | h
  · exact home_case (me := 1001) hn hf ha hb h (by decide) (by decide) runH_me0 runH_zero0 runH_mine0 runH_low0 runH_high0 runH_own0 runH_far0 w
  · exact home_case (me := 2001) hn hf ha hb h (by decide) (by decide) runH_me1 runH_zero1 runH_mine1 runH_low1 runH_high1 runH_own1 runH_far1 w
  · exact home_case (me := 3001) hn hf ha hb h (by decide) (by decide) runH_me2 runH_zero2 runH_mine2 runH_low2 runH_high2 runH_own2 runH_far2 w
  · exact home_case (me := 4001) hn hf ha hb h (by decide) (by decide) runH_me3 runH_zero3 runH_mine3 runH_low3 runH_high3 runH_own3 runH_far3 w
  · exact home_case (me := 5001) hn hf ha hb h (by decide) (by decide) runH_me4 runH_zero4 runH_mine4 runH_low4 runH_high4 runH_own4 runH_far4 w
  · exact home_case (me := 6001) hn hf ha hb h (by decide) (by decide) runH_me5 runH_zero5 runH_mine5 runH_low5 runH_high5 runH_own5 runH_far5 w
  · exact home_case (me := 7001) hn hf ha hb h (by decide) (by decide) runH_me6 runH_zero6 runH_mine6 runH_low6 runH_high6 runH_own6 runH_far6 w
  · exact home_case (me := 8001) hn hf ha hb h (by decide) (by decide) runH_me7 runH_zero7 runH_mine7 runH_low7 runH_high7 runH_own7 runH_far7 w
end Go.Cx
