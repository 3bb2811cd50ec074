/- Part of the proof: SxPut. -/
import Derived.Test.YtinjdimejijabaaSxBit
set_option linter.unusedVariables false
set_option linter.unusedSimpArgs false
namespace Go.Sx
end Go.Sx
