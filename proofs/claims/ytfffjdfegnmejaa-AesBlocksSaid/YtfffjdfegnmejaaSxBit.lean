/- Part of the proof: SxBit. -/
import Derived.Test.YtfffjdfegnmejaaSxHelp
set_option linter.unusedVariables false
set_option linter.unusedSimpArgs false
namespace Go.Sx
end Go.Sx
