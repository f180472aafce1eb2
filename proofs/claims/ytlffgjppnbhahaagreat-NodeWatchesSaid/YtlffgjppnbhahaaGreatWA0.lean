/- Some of the ten runs of NodeWatches. -/
import Derived.Test.YtlffgjppnbhahaaGreatWO
set_option linter.unusedSimpArgs false
set_option linter.unusedVariables false
set_option maxHeartbeats 1000000
namespace Go.Cx
theorem runW_t0 : runW true 0 = true := by kernel_rfl
theorem runW_t1 : runW true 1 = true := by kernel_rfl
theorem runW_t2 : runW true 2 = true := by kernel_rfl
end Go.Cx
