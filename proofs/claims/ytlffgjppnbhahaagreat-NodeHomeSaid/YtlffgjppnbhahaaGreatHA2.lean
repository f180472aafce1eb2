/- Some of the runs of NodeHome. -/
import Derived.Test.YtlffgjppnbhahaaGreatHS
set_option linter.unusedSimpArgs false
set_option linter.unusedVariables false
set_option maxHeartbeats 1000000
namespace Go.Cx
theorem runH_me4 : runH (just 5001) big 4 = true := by kernel_rfl
theorem runH_zero4 : runH (just 0) big 4 = true := by kernel_rfl
theorem runH_mine4 : runH (just (-1)) big 4 = true := by kernel_rfl
theorem runH_low4 : runH ⟨big.lo, big.hi, [5001, 0, -1]⟩ ⟨big.lo, 0, []⟩ 4 = true := by kernel_rfl
theorem runH_high4 : runH ⟨big.lo, big.hi, [5001, 0, -1]⟩ ⟨9, big.hi, []⟩ 4 = true := by kernel_rfl
theorem runH_own4 : runH ⟨big.lo, big.hi, [5001, 0, -1]⟩ (just 5) 4 = true := by kernel_rfl
theorem runH_far4 : runH ⟨big.lo, big.hi, [5001, 0, -1]⟩ ⟨1, 8, [5]⟩ 4 = true := by kernel_rfl
theorem runH_me5 : runH (just 6001) big 5 = true := by kernel_rfl
theorem runH_zero5 : runH (just 0) big 5 = true := by kernel_rfl
theorem runH_mine5 : runH (just (-1)) big 5 = true := by kernel_rfl
theorem runH_low5 : runH ⟨big.lo, big.hi, [6001, 0, -1]⟩ ⟨big.lo, 0, []⟩ 5 = true := by kernel_rfl
theorem runH_high5 : runH ⟨big.lo, big.hi, [6001, 0, -1]⟩ ⟨9, big.hi, []⟩ 5 = true := by kernel_rfl
theorem runH_own5 : runH ⟨big.lo, big.hi, [6001, 0, -1]⟩ (just 6) 5 = true := by kernel_rfl
theorem runH_far5 : runH ⟨big.lo, big.hi, [6001, 0, -1]⟩ ⟨1, 8, [6]⟩ 5 = true := by kernel_rfl
end Go.Cx
