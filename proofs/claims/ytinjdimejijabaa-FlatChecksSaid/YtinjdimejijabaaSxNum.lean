/- Part of the proof: SxNum. -/
import Derived.Test.YtinjdimejijabaaSxHelp
set_option linter.unusedVariables false
set_option linter.unusedSimpArgs false
namespace Go.Sx
def ZdN (v : Int) : Nat -> List Int
  | 0 => []
  | k + 1 => ZdN v k ++ [(v / 256 ^ k) % 256]
theorem ZbU (v : Int) : ∀ k, (ZdN v k).length = k
  | 0 => rfl
  | k + 1 => by simp [ZdN, ZbU v k]
theorem ZtF (v : Nat) : ∀ k, Zcz (ZdN v k) = ((v % 256 ^ k : Nat) : Int)
  | 0 => by simp [ZdN, Zcz, Nat.mod_one]
  | k + 1 => by
    rw [ZdN, Zje, ZtF v k, ZbU, Nat.pow_succ, Nat.mod_mul, Int.natCast_add, Int.natCast_mul, Int.mul_comm]
    simp
theorem ZmZ (v : Int) : ∀ k, Byt (ZdN v k)
  | 0 => by simp [ZdN, Byt]
  | k + 1 => fun x hx => by
    rw [ZdN] at hx
    rcases List.mem_append.1 hx with h | h
    · exact ZmZ v k x h
    · simp at h; omega
end Go.Sx
