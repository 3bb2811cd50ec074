/- The seat's program, and what walks of it hang on. -/
import Derived.Test.YtinapgobpoiioaaRows
import Derived.Test.YtinapgobpoiioaaSxV1
import Derived.Test.YtinapgobpoiioaaSxG
import Derived.Test.YtinapgobpoiioaaSxMixT
import Derived.Test.YtinapgobpoiioaaSxPutL
set_option linter.unusedVariables false
set_option linter.unusedSimpArgs false
