/- Some of the ten runs of NodeWatches. -/
import Derived.Test.YtlffgjppnbhahaaGreatWO
set_option linter.unusedSimpArgs false
set_option linter.unusedVariables false
set_option maxHeartbeats 1000000
namespace Go.Cx
theorem runW_t3 : runW true 3 = true := by kernel_rfl
theorem runW_t4 : runW true 4 = true := by kernel_rfl
theorem runW_f0 : runW false 0 = true := by kernel_rfl
end Go.Cx
