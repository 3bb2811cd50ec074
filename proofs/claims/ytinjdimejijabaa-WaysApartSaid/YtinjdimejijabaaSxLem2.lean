/- Two parts of the proof. -/
import Derived.Test.YtinjdimejijabaaSxEv
import Derived.Test.YtinjdimejijabaaSxCode
set_option linter.unusedVariables false
set_option linter.unusedSimpArgs false
namespace Go.Sx
end Go.Sx

namespace Go.Sx
end Go.Sx
