/- Part of the proof: SxCacheN. -/
import Derived.Test.YtinjdimejijabaaSxCacheV
set_option linter.unusedVariables false
set_option linter.unusedSimpArgs false
namespace Go.Sx
def ZaM (n : Int) : Int := min (max n 1) 64
def ZaJ (n : Int) : Nat := (ZaM n).toNat
theorem Zg4 (n : Int) : 1 <= ZaM n /\ ZaM n <= 64 := by unfold ZaM; omega
theorem ZjN (n : Int) : 1 <= ZaJ n /\ ZaJ n <= 64 /\ (ZaJ n : Int) = ZaM n := by
  have := Zg4 n
  unfold ZaJ; omega
def Zht (s w : Int) : CacheV := ⟨ZaM w, List.replicate (ZaJ s) []⟩
end Go.Sx
