/- Part of the proof: SxKeys. -/
import Derived.Test.YtinjdimejijabaaSxWays
import Derived.Test.YtinjdimejijabaaSxSortI
set_option linter.unusedVariables false
set_option linter.unusedSimpArgs false
namespace Go.Sx
def ZaR (n : Nat) (cs : List (Tup Zac)) : List Int := (List.range n).flatMap fun i => ZaQ (ZaU cs i)
theorem ZgE (n : Nat) (cs : List (Tup Zac)) : ZaR (n + 1) cs = ZaR n cs ++ ZaQ (ZaU cs n) := by
  unfold ZaR; rw [List.range_succ, List.flatMap_append]; simp
theorem Zbu (r : List (Tup Zaa)) : (ZaQ r).length = r.length := by unfold ZaQ; simp
theorem Ziu {cs : List (Tup Zac)} (h : ∀ i, (ZaU cs i).length <= 64) : ∀ n, (ZaR n cs).length <= n * 64
  | 0 => by simp [ZaR]
  | n + 1 => by
    rw [ZgE, List.length_append, Zbu]
    have := Ziu h n
    have := h n
    omega
theorem ZoC {r : List (Tup Zaa)} {j : Nat} (h : j < r.length) : (ZaQ r).take (j + 1) = (ZaQ r).take j ++ [(r.getD j (Tup.dflt Zaa)).1] := by
  unfold ZaQ
  rw [List.take_add_one]
  simp [h, List.getD_eq_getElem?_getD]
end Go.Sx
