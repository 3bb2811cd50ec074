/- Part of the proof: SxCacheN. -/
import Derived.Test.YtinjdimejijabaaSxCacheV
set_option linter.unusedVariables false
set_option linter.unusedSimpArgs false
namespace Go.Sx
def ZaA (n : Int) : Int := min (max n 1) 64
def ZaP (n : Int) : Nat := (ZaA n).toNat
theorem Zfd (n : Int) : 1 <= ZaA n /\ ZaA n <= 64 := by unfold ZaA; omega
theorem Zjo (n : Int) : 1 <= ZaP n /\ ZaP n <= 64 /\ (ZaP n : Int) = ZaA n := by
  have := Zfd n
  unfold ZaP; omega
def ZiG (s w : Int) : CacheV := ⟨ZaA w, List.replicate (ZaP s) []⟩
end Go.Sx
