/- Part of the proof: SxEqT. -/
import Derived.Test.YtinjdimejijabaaSxWorld
import Derived.DeepKeys
set_option linter.unusedVariables false
set_option linter.unusedSimpArgs false
namespace Go.Sx
def ZAS (P : Program) (t : TypeId) : Bool := match P.underlying t with
  | some (.struct _) | some (.array _ _) => true
  | _ => false
section
variable {P : Program} (w : World)
end
end Go.Sx
