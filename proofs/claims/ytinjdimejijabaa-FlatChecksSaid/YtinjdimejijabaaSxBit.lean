/- Part of the proof: SxBit. -/
import Derived.Test.YtinjdimejijabaaSxHelp
set_option linter.unusedVariables false
set_option linter.unusedSimpArgs false
namespace Go.Sx
theorem ZAS (a n bits : Nat) (h : a < 2 ^ bits) (hn : n <= bits) : (BitVec.ofInt bits (a : Int) &&& BitVec.ofInt bits ((2 ^ n - 1 : Nat) : Int)).toNat = a % 2 ^ n := by
  have h2 : 2 ^ n - 1 < 2 ^ bits := by
    have := Nat.pow_le_pow_right (n := 2) (by omega) hn
    have := Nat.pow_pos (n := n) (show 0 < 2 by omega)
    omega
  rw [BitVec.toNat_and, BitVec.ofInt_natCast, BitVec.ofInt_natCast, BitVec.toNat_ofNat, BitVec.toNat_ofNat, Nat.mod_eq_of_lt h, Nat.mod_eq_of_lt h2, Nat.and_two_pow_sub_one_eq_mod]
theorem ZAr (a n : Nat) (h : a < 2 ^ 64) (hn : n <= 64) : Zma .u64 a ((2 ^ n - 1 : Nat) : Int) = (a % 2 ^ n : Nat) := by
  have := ZAS a n 64 h hn
  unfold Zma
  change IntKind.u64.wrap (((BitVec.ofInt 64 (a : Int) &&& BitVec.ofInt 64 ((2 ^ n - 1 : Nat) : Int)).toNat : Nat) : Int) = _
  have h2 : a % 2 ^ n <= a := Nat.mod_le _ _
  rw [this, ZdH]; omega
end Go.Sx
