/- Part of the proof: SxAes3. -/
import Derived.Test.YtfffjdfegnmejaaSxAes2
set_option linter.unusedVariables false
set_option linter.unusedSimpArgs false
namespace Go.Sx
def sB (s : ByteArray) (i : Nat) : Int := ((s.data.toList.getD i 0).toNat : Nat)
def ZEW (s : ByteArray) (k : Nat) : Int := 16 * ZfF (sB s (2 * k)) + ZfF (sB s (2 * k + 1))
def ZsV (s : ByteArray) (k : Nat) : Bool := (List.range k).all fun j => decide (0 <= ZfF (sB s (2 * j))) && decide (0 <= ZfF (sB s (2 * j + 1)))
def ZoA (s : ByteArray) : Bool := ZsV s (s.size / 2)
def unL (s : ByteArray) : List Int := (List.range (s.size / 2)).map (ZEW s)
def ZfL (s : ByteArray) : List Int := (List.range 16).map fun i => (unL s).getD i 0
theorem Zoh : ∀ k j c, j + k <= 16 -> -1 <= ZjR k j c /\ ZjR k j c < 16
  | 0, _, _, _ => by simp [ZjR]
  | k + 1, j, c, h => by
    unfold ZjR
    split
    · omega
    · exact Zoh k (j + 1) c (by omega)
theorem ZiH (c : Int) : -1 <= ZfF c /\ ZfF c < 16 := Zoh 16 0 c (by omega)
theorem ZuL (s : ByteArray) (i : Nat) : 0 <= sB s i /\ sB s i < 256 := by
  unfold sB
  have := (s.data.toList.getD i 0).toNat_lt
  omega
theorem Zhn (s : ByteArray) (k : Nat) : ZsV s (k + 1) = (ZsV s k && (decide (0 <= ZfF (sB s (2 * k))) && decide (0 <= ZfF (sB s (2 * k + 1))))) := by
  unfold ZsV; rw [List.range_succ, List.all_append]; simp
theorem Zll {s : ByteArray} : ∀ {n k : Nat}, ZsV s (k + n) = true -> ZsV s k = true
  | 0, _, h => h
  | n + 1, k, h => by
    rw [<- Nat.add_assoc, Zhn, Bool.and_eq_true] at h
    exact Zll h.1
end Go.Sx
