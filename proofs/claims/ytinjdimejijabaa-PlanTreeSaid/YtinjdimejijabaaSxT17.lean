/- Two parts of the proof. -/
import Derived.Test.YtinjdimejijabaaSxCall
import Derived.Test.YtinjdimejijabaaChecked
import Derived.KernelRfl
import Derived.Test.YtinjdimejijabaaSxT15
set_option linter.unusedVariables false
set_option linter.unusedSimpArgs false
namespace Go.Proofs.Ytinjdimejijabaa
open Go.Sx
end Go.Proofs.Ytinjdimejijabaa

namespace Go.Proofs.Ytinjdimejijabaa
open Go.Sx
end Go.Proofs.Ytinjdimejijabaa
