/- Part of the proof: SxWordW2. -/
import Derived.Test.YtinjdimejijabaaSxWordW
import Derived.KernelRfl
set_option linter.unusedVariables false
set_option linter.unusedSimpArgs false
set_option maxRecDepth 20000
namespace Go.Proofs.Ytinjdimejijabaa
open Go.Sx
section
variable {w0 : World} {fp : Nat -> Nat -> Prop} {ρi : Rho} {Kf : SVal -> Heap -> Prop}
end
end Go.Proofs.Ytinjdimejijabaa
