/- Part of the proof: SxPut. -/
import Derived.Test.YtfffjdfegnmejaaSxBit
set_option linter.unusedVariables false
set_option linter.unusedSimpArgs false
namespace Go.Sx
theorem ZlL {xs : List Int} {j : Nat} (h : xs.length <= j) : xs.getD j 0 = 0 := by
  rw [List.getD_eq_getElem?_getD, List.getElem?_eq_none h]; rfl
end Go.Sx
