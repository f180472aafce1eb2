/- Some of the ten runs of NodeWatches. -/
import Derived.Test.YtlffgjppnbhahaaGreatWO
set_option linter.unusedSimpArgs false
set_option linter.unusedVariables false
set_option maxHeartbeats 1000000
namespace Go.Cx
theorem runW_f1 : runW false 1 = true := by kernel_rfl
theorem runW_f2 : runW false 2 = true := by kernel_rfl
end Go.Cx
