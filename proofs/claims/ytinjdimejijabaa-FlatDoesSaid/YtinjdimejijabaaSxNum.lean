/- Part of the proof: SxNum. -/
import Derived.Test.YtinjdimejijabaaSxHelp
set_option linter.unusedVariables false
set_option linter.unusedSimpArgs false
namespace Go.Sx
def Zdv (v : Int) : Nat -> List Int
  | 0 => []
  | k + 1 => Zdv v k ++ [(v / 256 ^ k) % 256]
theorem ZbN (v : Int) : ∀ k, (Zdv v k).length = k
  | 0 => rfl
  | k + 1 => by simp [Zdv, ZbN v k]
theorem ZsU (v : Nat) : ∀ k, Zco (Zdv v k) = ((v % 256 ^ k : Nat) : Int)
  | 0 => by simp [Zdv, Zco, Nat.mod_one]
  | k + 1 => by
    rw [Zdv, ZiE, ZsU v k, ZbN, Nat.pow_succ, Nat.mod_mul, Int.natCast_add, Int.natCast_mul, Int.mul_comm]
    simp
theorem Zme (v : Int) : ∀ k, Byt (Zdv v k)
  | 0 => by simp [Zdv, Byt]
  | k + 1 => fun x hx => by
    rw [Zdv] at hx
    rcases List.mem_append.1 hx with h | h
    · exact Zme v k x h
    · simp at h; omega
end Go.Sx
