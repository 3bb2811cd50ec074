/- Part of the proof: SxOpX. -/
import Derived.Test.YtggpebgigddogaaSxOpW
import Derived.Test.YtggpebgigddogaaSxFitV
set_option linter.unusedVariables false
set_option linter.unusedSimpArgs false
namespace Go.Sx
namespace OpV
end OpV
end Go.Sx
