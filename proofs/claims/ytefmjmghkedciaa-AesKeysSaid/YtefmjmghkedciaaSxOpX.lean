/- Part of the proof: SxOpX. -/
import Derived.Test.YtefmjmghkedciaaSxOpW
import Derived.Test.YtefmjmghkedciaaSxFitV
set_option linter.unusedVariables false
set_option linter.unusedSimpArgs false
namespace Go.Sx
namespace OpV
end OpV
end Go.Sx
