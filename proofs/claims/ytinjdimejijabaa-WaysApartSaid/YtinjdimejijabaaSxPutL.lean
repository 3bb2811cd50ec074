/- Part of the proof: SxPutL. -/
import Derived.Test.YtinjdimejijabaaSxPut
set_option linter.unusedVariables false
set_option linter.unusedSimpArgs false
namespace Go.Sx
end Go.Sx
