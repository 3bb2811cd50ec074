/- Part of the proof: SxPutL. -/
import Derived.Test.YtfffjdfegnmejaaSxPut
set_option linter.unusedVariables false
set_option linter.unusedSimpArgs false
namespace Go.Sx
theorem Zob {xs : List Int} (hb : Byt xs) (i : Nat) : 0 <= xs.getD i 0 /\ xs.getD i 0 < 256 := by
  by_cases h : i < xs.length
  · rw [List.getD_eq_getElem?_getD, List.getElem?_eq_getElem h]; exact hb _ (List.getElem_mem h)
  · rw [ZlL (by omega)]; omega
end Go.Sx
