/- Part of the proof: SxKeys. -/
import Derived.Test.YtinjdimejijabaaSxWays
import Derived.Test.YtinjdimejijabaaSxSortI
set_option linter.unusedVariables false
set_option linter.unusedSimpArgs false
namespace Go.Sx
def Za2 (n : Nat) (cs : List (Tup Zad)) : List Int := (List.range n).flatMap fun i => Za1 (Za4 cs i)
theorem ZhF (n : Nat) (cs : List (Tup Zad)) : Za2 (n + 1) cs = Za2 n cs ++ Za1 (Za4 cs n) := by
  unfold Za2; rw [List.range_succ, List.flatMap_append]; simp
theorem Zbg (r : List (Tup Zaa)) : (Za1 r).length = r.length := by unfold Za1; simp
theorem ZjZ {cs : List (Tup Zad)} (h : ∀ i, (Za4 cs i).length <= 64) : ∀ n, (Za2 n cs).length <= n * 64
  | 0 => by simp [Za2]
  | n + 1 => by
    rw [ZhF, List.length_append, Zbg]
    have := ZjZ h n
    have := h n
    omega
theorem ZjY {r : List (Tup Zaa)} {j : Nat} (h : j < r.length) : (Za1 r).take (j + 1) = (Za1 r).take j ++ [(r.getD j (Tup.dflt Zaa)).1] := by
  unfold Za1
  rw [List.take_add_one]
  simp [h, List.getD_eq_getElem?_getD]
end Go.Sx
