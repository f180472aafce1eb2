/- Some of the ten runs of NodeWatches. -/
import Derived.Test.YtlffgjppnbhahaaGreatWO
set_option linter.unusedSimpArgs false
set_option linter.unusedVariables false
set_option maxHeartbeats 1000000
namespace Go.Cx
theorem runW_f3 : runW false 3 = true := by kernel_rfl
theorem runW_f4 : runW false 4 = true := by kernel_rfl
end Go.Cx
