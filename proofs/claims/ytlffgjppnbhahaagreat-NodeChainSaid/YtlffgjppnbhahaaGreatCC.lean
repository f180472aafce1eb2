/- NodeChain: whatever its argument it says true. -/
import Derived.Test.YtlffgjppnbhahaaGreatCA0
import Derived.Test.YtlffgjppnbhahaaGreatCA1
import Derived.Test.YtlffgjppnbhahaaGreatCA2
import Derived.Test.YtlffgjppnbhahaaGreatCA3
import Derived.Test.YtlffgjppnbhahaaGreatCA4
import Derived.Test.YtlffgjppnbhahaaGreatCA5
import Derived.Test.YtlffgjppnbhahaaGreatCA6
import Derived.Test.YtlffgjppnbhahaaGreatCA7
set_option linter.unusedSimpArgs false
set_option linter.unusedVariables false
set_option maxHeartbeats 1000000
namespace Go.Cx

theorem left8 (n : Int) : (IntKind.u64.wrap n).tmod 8 = 0 ∨ (IntKind.u64.wrap n).tmod 8 = 1 ∨ (IntKind.u64.wrap n).tmod 8 = 2 ∨ (IntKind.u64.wrap n).tmod 8 = 3 ∨ (IntKind.u64.wrap n).tmod 8 = 4 ∨ (IntKind.u64.wrap n).tmod 8 = 5 ∨ (IntKind.u64.wrap n).tmod 8 = 6 ∨ (IntKind.u64.wrap n).tmod 8 = 7 := by
  have h : IntKind.u64.wrap n = n % 18446744073709551616 := by simp [IntKind.wrap, IntKind.bits, IntKind.signed]
  rw [h, Int.tmod_eq_emod_of_nonneg (by omega)]
  omega

theorem chain (n : Int) (w : World) : Calls prog 3 #[.int .i64 n] w fun e w' => e = .returned (.bool true) ∧ Go.RowKit.Below w.heap.size w w' := by
  rcases left8 n with h | h | h | h | h | h | h | h
  · exact chain0 h w
  · exact chain1 h w
  · exact chain2 h w
  · exact chain3 h w
  · exact chain4 h w
  · exact chain5 h w
  · exact chain6 h w
  · exact chain7 h w

end Go.Cx
