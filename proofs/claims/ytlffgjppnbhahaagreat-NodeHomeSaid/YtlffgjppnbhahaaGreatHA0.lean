/- Some of the runs of NodeHome. -/
import Derived.Test.YtlffgjppnbhahaaGreatHS
set_option linter.unusedSimpArgs false
set_option linter.unusedVariables false
set_option maxHeartbeats 1000000
namespace Go.Cx
theorem runH_me0 : runH (just 1001) big 0 = true := by kernel_rfl
theorem runH_zero0 : runH (just 0) big 0 = true := by kernel_rfl
theorem runH_mine0 : runH (just (-1)) big 0 = true := by kernel_rfl
theorem runH_low0 : runH ⟨big.lo, big.hi, [1001, 0, -1]⟩ ⟨big.lo, 0, []⟩ 0 = true := by kernel_rfl
theorem runH_high0 : runH ⟨big.lo, big.hi, [1001, 0, -1]⟩ ⟨9, big.hi, []⟩ 0 = true := by kernel_rfl
theorem runH_own0 : runH ⟨big.lo, big.hi, [1001, 0, -1]⟩ (just 1) 0 = true := by kernel_rfl
theorem runH_far0 : runH ⟨big.lo, big.hi, [1001, 0, -1]⟩ ⟨1, 8, [1]⟩ 0 = true := by kernel_rfl
theorem runH_me1 : runH (just 2001) big 1 = true := by kernel_rfl
theorem runH_zero1 : runH (just 0) big 1 = true := by kernel_rfl
theorem runH_mine1 : runH (just (-1)) big 1 = true := by kernel_rfl
theorem runH_low1 : runH ⟨big.lo, big.hi, [2001, 0, -1]⟩ ⟨big.lo, 0, []⟩ 1 = true := by kernel_rfl
theorem runH_high1 : runH ⟨big.lo, big.hi, [2001, 0, -1]⟩ ⟨9, big.hi, []⟩ 1 = true := by kernel_rfl
theorem runH_own1 : runH ⟨big.lo, big.hi, [2001, 0, -1]⟩ (just 2) 1 = true := by kernel_rfl
theorem runH_far1 : runH ⟨big.lo, big.hi, [2001, 0, -1]⟩ ⟨1, 8, [2]⟩ 1 = true := by kernel_rfl
end Go.Cx
