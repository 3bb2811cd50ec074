/- Part of the proof: SxCacheN. -/
import Derived.Test.YtinjdimejijabaaSxCacheV
set_option linter.unusedVariables false
set_option linter.unusedSimpArgs false
namespace Go.Sx
def ZaP (n : Int) : Int := min (max n 1) 64
def ZaK (n : Int) : Nat := (ZaP n).toNat
theorem Zh0 (n : Int) : 1 <= ZaP n /\ ZaP n <= 64 := by unfold ZaP; omega
theorem Zk6 (n : Int) : 1 <= ZaK n /\ ZaK n <= 64 /\ (ZaK n : Int) = ZaP n := by
  have := Zh0 n
  unfold ZaK; omega
def ZgY (s w : Int) : CacheV := ⟨ZaP w, List.replicate (ZaK s) []⟩
end Go.Sx
