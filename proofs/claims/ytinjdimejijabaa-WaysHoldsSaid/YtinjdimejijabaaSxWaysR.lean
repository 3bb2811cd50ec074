/- Part of the proof: SxWaysR. -/
import Derived.Test.YtinjdimejijabaaSxCacheV
import Derived.Test.YtinjdimejijabaaSxRow2
import Derived.Test.YtinjdimejijabaaSxRowA
set_option linter.unusedVariables false
set_option linter.unusedSimpArgs false
namespace Go.Sx
theorem Zli {l : List (Tup Zad)} (h : ∀ x ∈ l, Tup.wf Zad x) : Zi1 l := fun x hx => by
  obtain ⟨h1, h2, h3⟩ := h x hx
  exact ⟨Zi6 h1, Zi6 h2, Zi6 h3⟩
end Go.Sx
