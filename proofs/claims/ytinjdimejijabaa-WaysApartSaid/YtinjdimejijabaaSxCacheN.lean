/- Part of the proof: SxCacheN. -/
import Derived.Test.YtinjdimejijabaaSxCacheV
set_option linter.unusedVariables false
set_option linter.unusedSimpArgs false
namespace Go.Sx
def ZaJ (n : Int) : Int := min (max n 1) 64
def ZaG (n : Int) : Nat := (ZaJ n).toNat
theorem Zfq (n : Int) : 1 <= ZaJ n /\ ZaJ n <= 64 := by unfold ZaJ; omega
theorem Zfr (n : Int) : 1 <= ZaG n /\ ZaG n <= 64 /\ (ZaG n : Int) = ZaJ n := by
  have := Zfq n
  unfold ZaG; omega
def Zhw (s w : Int) : CacheV := ⟨ZaJ w, List.replicate (ZaG s) []⟩
end Go.Sx
