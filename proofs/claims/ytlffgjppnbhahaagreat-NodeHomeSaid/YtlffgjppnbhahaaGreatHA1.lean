/- Some of the runs of NodeHome. -/
import Derived.Test.YtlffgjppnbhahaaGreatHS
set_option linter.unusedSimpArgs false
set_option linter.unusedVariables false
set_option maxHeartbeats 1000000
namespace Go.Cx
theorem runH_me2 : runH (just 3001) big 2 = true := by kernel_rfl
theorem runH_zero2 : runH (just 0) big 2 = true := by kernel_rfl
theorem runH_mine2 : runH (just (-1)) big 2 = true := by kernel_rfl
theorem runH_low2 : runH ⟨big.lo, big.hi, [3001, 0, -1]⟩ ⟨big.lo, 0, []⟩ 2 = true := by kernel_rfl
theorem runH_high2 : runH ⟨big.lo, big.hi, [3001, 0, -1]⟩ ⟨9, big.hi, []⟩ 2 = true := by kernel_rfl
theorem runH_own2 : runH ⟨big.lo, big.hi, [3001, 0, -1]⟩ (just 3) 2 = true := by kernel_rfl
theorem runH_far2 : runH ⟨big.lo, big.hi, [3001, 0, -1]⟩ ⟨1, 8, [3]⟩ 2 = true := by kernel_rfl
theorem runH_me3 : runH (just 4001) big 3 = true := by kernel_rfl
theorem runH_zero3 : runH (just 0) big 3 = true := by kernel_rfl
theorem runH_mine3 : runH (just (-1)) big 3 = true := by kernel_rfl
theorem runH_low3 : runH ⟨big.lo, big.hi, [4001, 0, -1]⟩ ⟨big.lo, 0, []⟩ 3 = true := by kernel_rfl
theorem runH_high3 : runH ⟨big.lo, big.hi, [4001, 0, -1]⟩ ⟨9, big.hi, []⟩ 3 = true := by kernel_rfl
theorem runH_own3 : runH ⟨big.lo, big.hi, [4001, 0, -1]⟩ (just 4) 3 = true := by kernel_rfl
theorem runH_far3 : runH ⟨big.lo, big.hi, [4001, 0, -1]⟩ ⟨1, 8, [4]⟩ 3 = true := by kernel_rfl
end Go.Cx
