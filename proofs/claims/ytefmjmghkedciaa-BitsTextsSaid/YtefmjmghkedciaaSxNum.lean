/- The bytes of numbers, in plain Lean. -/
import Derived.Test.YtefmjmghkedciaaSxHelp
set_option linter.unusedVariables false
set_option linter.unusedSimpArgs false
namespace Go.Sx
def numB (v : Int) : Nat → List Int
  | 0 => []
  | k + 1 => numB v k ++ [(v / 256 ^ k) % 256]
theorem numB_length (v : Int) : ∀ k, (numB v k).length = k
  | 0 => rfl
  | k + 1 => by simp [numB, numB_length v k]
theorem numB_take (v : Int) (j : Nat) : ∀ k, (numB v k).take j = numB v (min j k)
  | 0 => by simp [numB]
  | k + 1 => by
    rw [numB, List.take_append, numB_take v j k, numB_length]
    rcases Nat.lt_or_ge k j with h | h
    · rw [Nat.min_eq_right (by omega), Nat.min_eq_right (by omega), List.take_of_length_le (by simp; omega)]; rfl
    · rw [Nat.min_eq_left h, Nat.min_eq_left (by omega), show j - k = 0 by omega]; simp
theorem numB_nat (v : Nat) : ∀ k, readB (numB v k) = ((v % 256 ^ k : Nat) : Int)
  | 0 => by simp [numB, readB, Nat.mod_one]
  | k + 1 => by
    rw [numB, readB_snoc, numB_nat v k, numB_length, Nat.pow_succ, Nat.mod_mul, Int.natCast_add, Int.natCast_mul, Int.mul_comm]
    simp
theorem numB_byt (v : Int) : ∀ k, Byt (numB v k)
  | 0 => by simp [numB, Byt]
  | k + 1 => fun x hx => by
    rw [numB] at hx
    rcases List.mem_append.1 hx with h | h
    · exact numB_byt v k x h
    · simp at h; omega
end Go.Sx
