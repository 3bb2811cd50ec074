/- Bits of bytes. -/
import Derived.Test.YtefmjmghkedciaaSxHelp
set_option linter.unusedVariables false
set_option linter.unusedSimpArgs false
namespace Go.Sx
theorem and_mask (a n bits : Nat) (h : a < 2 ^ bits) (hn : n ≤ bits) : (BitVec.ofInt bits (a : Int) &&& BitVec.ofInt bits ((2 ^ n - 1 : Nat) : Int)).toNat = a % 2 ^ n := by
  have h2 : 2 ^ n - 1 < 2 ^ bits := by
    have := Nat.pow_le_pow_right (n := 2) (by omega) hn
    have := Nat.pow_pos (n := n) (show 0 < 2 by omega)
    omega
  rw [BitVec.toNat_and, BitVec.ofInt_natCast, BitVec.ofInt_natCast, BitVec.toNat_ofNat, BitVec.toNat_ofNat, Nat.mod_eq_of_lt h, Nat.mod_eq_of_lt h2, Nat.and_two_pow_sub_one_eq_mod]
theorem iand_i64_7 (a : Nat) (h : a < 2 ^ 63) : iand .i64 a 7 = (a % 8 : Nat) := by
  have := and_mask a 3 64 (by omega) (by omega)
  have h7 : (7 : Int) = ((2 ^ 3 - 1 : Nat) : Int) := by decide
  rw [h7]
  unfold iand
  generalize ((2 ^ 3 - 1 : Nat) : Int) = z at *
  change IntKind.i64.wrap (((BitVec.ofInt 64 (a : Int) &&& BitVec.ofInt 64 z).toNat : Nat) : Int) = _
  rw [this, wrap_i64 (by omega) (by omega)]
theorem iand_u8_1 (a : Nat) (h : a < 256) : iand .u8 a 1 = (a % 2 : Nat) := by
  have := and_mask a 1 8 (by omega) (by omega)
  have h7 : (1 : Int) = ((2 ^ 1 - 1 : Nat) : Int) := by decide
  rw [h7]
  unfold iand
  generalize ((2 ^ 1 - 1 : Nat) : Int) = z at *
  change IntKind.u8.wrap (((BitVec.ofInt 8 (a : Int) &&& BitVec.ofInt 8 z).toNat : Nat) : Int) = _
  rw [this, wrap_u8]; omega
theorem iand_u64 (a n : Nat) (h : a < 2 ^ 64) (hn : n ≤ 64) : iand .u64 a ((2 ^ n - 1 : Nat) : Int) = (a % 2 ^ n : Nat) := by
  have := and_mask a n 64 h hn
  unfold iand
  change IntKind.u64.wrap (((BitVec.ofInt 64 (a : Int) &&& BitVec.ofInt 64 ((2 ^ n - 1 : Nat) : Int)).toNat : Nat) : Int) = _
  have h2 : a % 2 ^ n ≤ a := Nat.mod_le _ _
  rw [this, wrap_u64]; omega
def bit8 (x : Int) (c : Nat) : Int := x / 2 ^ c % 2
/-- One bit of a byte cleared, and one set: all cases. -/
def clrOk (x b c : Nat) : Bool := let y := iandNot .u8 x (2 ^ b : Nat); decide (0 ≤ y ∧ y < 256) && decide (bit8 y c = if c = b then 0 else bit8 x c)
def setOk (x b c : Nat) : Bool := let y := ior .u8 x (2 ^ b : Nat); decide (0 ≤ y ∧ y < 256) && decide (bit8 y c = if c = b then 1 else bit8 x c)
theorem clr_all : (List.range 256).all (fun x => (List.range 8).all fun b => (List.range 8).all fun c => clrOk x b c) = true := by decide +kernel
theorem set_all : (List.range 256).all (fun x => (List.range 8).all fun b => (List.range 8).all fun c => setOk x b c) = true := by decide +kernel
theorem clr8 {x : Int} {b : Nat} (h : 0 ≤ x ∧ x < 256) (hb : b < 8) : (0 ≤ iandNot .u8 x (2 ^ b : Nat) ∧ iandNot .u8 x (2 ^ b : Nat) < 256) ∧ ∀ c, c < 8 → bit8 (iandNot .u8 x (2 ^ b : Nat)) c = if c = b then 0 else bit8 x c := by
  obtain ⟨n, rfl⟩ := Int.eq_ofNat_of_zero_le h.1
  have := List.all_eq_true.1 clr_all n (by simp; omega)
  have := List.all_eq_true.1 this b (by simp; omega)
  have hc : ∀ c, c < 8 → clrOk n b c = true := fun c hc => List.all_eq_true.1 this c (by simp; omega)
  simp only [clrOk, Bool.and_eq_true, decide_eq_true_eq] at hc
  exact ⟨(hc 0 (by omega)).1, fun c h => (hc c h).2⟩
theorem set8 {x : Int} {b : Nat} (h : 0 ≤ x ∧ x < 256) (hb : b < 8) : (0 ≤ ior .u8 x (2 ^ b : Nat) ∧ ior .u8 x (2 ^ b : Nat) < 256) ∧ ∀ c, c < 8 → bit8 (ior .u8 x (2 ^ b : Nat)) c = if c = b then 1 else bit8 x c := by
  obtain ⟨n, rfl⟩ := Int.eq_ofNat_of_zero_le h.1
  have := List.all_eq_true.1 set_all n (by simp; omega)
  have := List.all_eq_true.1 this b (by simp; omega)
  have hc : ∀ c, c < 8 → setOk n b c = true := fun c hc => List.all_eq_true.1 this c (by simp; omega)
  simp only [setOk, Bool.and_eq_true, decide_eq_true_eq] at hc
  exact ⟨(hc 0 (by omega)).1, fun c h => (hc c h).2⟩
/-- A bit of bytes. -/
def bitB (xs : List Int) (k : Nat) : Int := bit8 (xs.getD (k / 8) 0) (k % 8)
/-- The number that bits are. -/
def getB (xs : List Int) (at_ : Nat) : Nat → Int
  | 0 => 0
  | n + 1 => getB xs at_ n + bitB xs (at_ + n) * 2 ^ n
theorem bitB_01 (xs k) : 0 ≤ bitB xs k ∧ bitB xs k < 2 := by unfold bitB bit8; omega
theorem getB_lt (xs : List Int) (a : Nat) : ∀ n, 0 ≤ getB xs a n ∧ getB xs a n < 2 ^ n
  | 0 => by simp [getB]
  | n + 1 => by
    have := getB_lt xs a n
    have hb := bitB_01 xs (a + n)
    simp only [getB, Int.pow_succ]
    have hp : (0 : Int) < 2 ^ n := Int.pow_pos (by omega)
    rcases (show bitB xs (a + n) = 0 ∨ bitB xs (a + n) = 1 by omega) with h | h <;> rw [h] <;> omega
end Go.Sx
