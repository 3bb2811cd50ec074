/- The seat's program, and what walks of it hang on. -/
import Derived.Test.YtefmjmghkedciaaRows
import Derived.Test.YtefmjmghkedciaaSxV1
import Derived.Test.YtefmjmghkedciaaSxG
import Derived.Test.YtefmjmghkedciaaSxMixT
import Derived.Test.YtefmjmghkedciaaSxPutL
set_option linter.unusedVariables false
set_option linter.unusedSimpArgs false
