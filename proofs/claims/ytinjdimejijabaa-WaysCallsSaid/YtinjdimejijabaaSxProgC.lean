/- Two parts of the proof. -/
import Derived.Test.YtinjdimejijabaaSxBit
import Derived.Test.YtinjdimejijabaaRows
import Derived.Test.YtinjdimejijabaaSxV1
import Derived.Test.YtinjdimejijabaaSxG
import Derived.Test.YtinjdimejijabaaSxMixT
set_option linter.unusedVariables false
set_option linter.unusedSimpArgs false
namespace Go.Sx
end Go.Sx

namespace Go.Sx
end Go.Sx

