/- Part of the proof: SxSort. -/
import Derived.Test.YtinjdimejijabaaSxSortI
import Derived.Test.YtinjdimejijabaaSxSortLay
set_option linter.unusedVariables false
set_option linter.unusedSimpArgs false
namespace Go.Proofs.Ytinjdimejijabaa
open Go.Sx
def ZrW : Con := ⟨65, gS Zoi, [0], [], []⟩
theorem Zvi : Sound Try.prog 65 (gS Zoi) := Zot Zrx
end Go.Proofs.Ytinjdimejijabaa
