/- Part of the proof: SxProgC. -/
import Derived.Test.YtinjdimejijabaaRows
import Derived.Test.YtinjdimejijabaaSxV1
import Derived.Test.YtinjdimejijabaaSxG
import Derived.Test.YtinjdimejijabaaSxMixT
import Derived.Test.YtinjdimejijabaaSxPutL
set_option linter.unusedVariables false
set_option linter.unusedSimpArgs false
