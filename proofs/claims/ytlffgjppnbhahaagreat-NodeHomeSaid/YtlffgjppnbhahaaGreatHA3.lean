/- Some of the runs of NodeHome. -/
import Derived.Test.YtlffgjppnbhahaaGreatHS
set_option linter.unusedSimpArgs false
set_option linter.unusedVariables false
set_option maxHeartbeats 1000000
namespace Go.Cx
theorem runH_me6 : runH (just 7001) big 6 = true := by kernel_rfl
theorem runH_zero6 : runH (just 0) big 6 = true := by kernel_rfl
theorem runH_mine6 : runH (just (-1)) big 6 = true := by kernel_rfl
theorem runH_low6 : runH ⟨big.lo, big.hi, [7001, 0, -1]⟩ ⟨big.lo, 0, []⟩ 6 = true := by kernel_rfl
theorem runH_high6 : runH ⟨big.lo, big.hi, [7001, 0, -1]⟩ ⟨9, big.hi, []⟩ 6 = true := by kernel_rfl
theorem runH_own6 : runH ⟨big.lo, big.hi, [7001, 0, -1]⟩ (just 7) 6 = true := by kernel_rfl
theorem runH_far6 : runH ⟨big.lo, big.hi, [7001, 0, -1]⟩ ⟨1, 8, [7]⟩ 6 = true := by kernel_rfl
theorem runH_me7 : runH (just 8001) big 7 = true := by kernel_rfl
theorem runH_zero7 : runH (just 0) big 7 = true := by kernel_rfl
theorem runH_mine7 : runH (just (-1)) big 7 = true := by kernel_rfl
theorem runH_low7 : runH ⟨big.lo, big.hi, [8001, 0, -1]⟩ ⟨big.lo, 0, []⟩ 7 = true := by kernel_rfl
theorem runH_high7 : runH ⟨big.lo, big.hi, [8001, 0, -1]⟩ ⟨9, big.hi, []⟩ 7 = true := by kernel_rfl
theorem runH_own7 : runH ⟨big.lo, big.hi, [8001, 0, -1]⟩ (just 8) 7 = true := by kernel_rfl
theorem runH_far7 : runH ⟨big.lo, big.hi, [8001, 0, -1]⟩ ⟨1, 8, [8]⟩ 7 = true := by kernel_rfl
end Go.Cx
