/- Part of the proof: SxWaysR. -/
import Derived.Test.YtinjdimejijabaaSxCacheV
import Derived.Test.YtinjdimejijabaaSxRow2
import Derived.Test.YtinjdimejijabaaSxRowA
set_option linter.unusedVariables false
set_option linter.unusedSimpArgs false
namespace Go.Sx
theorem ZlG {l : List (Tup Zad)} (h : ∀ x ∈ l, Tup.wf Zad x) : Zjr l := fun x hx => by
  obtain ⟨h1, h2, h3⟩ := h x hx
  exact ⟨Zjx h1, Zjx h2, Zjx h3⟩
end Go.Sx
