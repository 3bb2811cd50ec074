/- Part of the proof: SxWaysR. -/
import Derived.Test.YtinjdimejijabaaSxCacheV
import Derived.Test.YtinjdimejijabaaSxRow2
import Derived.Test.YtinjdimejijabaaSxRowA
set_option linter.unusedVariables false
set_option linter.unusedSimpArgs false
namespace Go.Sx
theorem ZmU {l : List (Tup Zad)} (h : ∀ x ∈ l, Tup.wf Zad x) : Zki l := fun x hx => by
  obtain ⟨h1, h2, h3⟩ := h x hx
  exact ⟨Zm5 h1, Zm5 h2, Zm5 h3⟩
end Go.Sx
