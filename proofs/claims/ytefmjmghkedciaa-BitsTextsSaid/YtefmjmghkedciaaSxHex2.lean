/- Bits of rows that are unlike, and texts that are none. -/
import Derived.Test.YtefmjmghkedciaaSxHex
set_option linter.unusedVariables false
set_option linter.unusedSimpArgs false
namespace Go.Sx
def texN (s : ByteArray) : Nat := if textOk s = true then s.size / 2 else 0
def texL (s : ByteArray) : List Int := if textOk s = true then unL s else []
def texE (s : ByteArray) : Int := if textOk s = true then 0 else 3
def qtN (s : ByteArray) : Nat := if unOk s = true then s.size / 2 else 0
def qtL (s : ByteArray) : List Int := if unOk s = true then unL s else []
theorem tex_bad {s : ByteArray} (h : textOk s = false) : texN s = 0 ∧ texL s = [] ∧ texE s = 3 := by
  unfold texN texL texE; rw [h]; exact ⟨rfl, rfl, rfl⟩
theorem tex_good {s : ByteArray} (h : textOk s = true) : texN s = s.size / 2 ∧ texL s = unL s ∧ texE s = 0 := by
  unfold texN texL texE; rw [h]; exact ⟨rfl, rfl, rfl⟩
theorem qt_bad {s : ByteArray} (h : unOk s = false) : qtN s = 0 ∧ qtL s = [] := by
  unfold qtN qtL; rw [h]; exact ⟨rfl, rfl⟩
theorem qt_good {s : ByteArray} (h : unOk s = true) : qtN s = s.size / 2 ∧ qtL s = unL s := by
  unfold qtN qtL; rw [h]; exact ⟨rfl, rfl⟩
theorem bit_bv : ∀ n, n < 256 → ∀ i, i < 8 → bit8 (n : Nat) i = if (bv (n : Nat)).getLsbD i = true then 1 else 0 := by decide +kernel
theorem bit_xor {x y : Int} {i : Nat} (hx : 0 ≤ x ∧ x < 256) (hy : 0 ≤ y ∧ y < 256) (hi : i < 8) : ((bit8 x i != bit8 y i) = true → bit8 (ixor .u8 x y) i = 1) ∧ ((bit8 x i != bit8 y i) = false → bit8 (ixor .u8 x y) i = 0) := by
  have hz := ixor_u8 x y
  have e : ∀ z : Int, 0 ≤ z ∧ z < 256 → bit8 z i = if (bv z).getLsbD i = true then 1 else 0 := fun z h => by
    obtain ⟨n, rfl⟩ := Int.eq_ofNat_of_zero_le h.1
    exact bit_bv n (by omega) i hi
  rw [e x hx, e y hy, e _ hz, bv_xor, BitVec.getLsbD_xor]
  cases (bv x).getLsbD i <;> cases (bv y).getLsbD i <;> decide
theorem half_step {z : Int} {i : Nat} (hz : 0 ≤ z ∧ z < 256) : z / 2 ^ i = 2 * (z / 2 ^ (i + 1)) + bit8 z i ∧ 0 ≤ z / 2 ^ i ∧ z / 2 ^ i < 256 := by
  have h0 : 0 ≤ z / 2 ^ i := Int.ediv_nonneg hz.1 (Int.le_of_lt (Int.pow_pos (by omega)))
  have h1 : z / 2 ^ i ≤ z := Int.ediv_le_self _ hz.1
  refine ⟨?_, h0, by omega⟩
  unfold bit8
  rw [Int.pow_succ, ← Int.ediv_ediv_of_nonneg (Int.le_of_lt (Int.pow_pos (by omega)))]
  omega
theorem bitB_at {xs : List Int} {n : Nat} {k i : Nat} (hi : i < 8) (hn : xs.length = n) : bitB (List.take n xs) (8 * k + i) = bit8 (xs.getD k 0) i := by
  unfold bitB
  rw [List.take_of_length_le (by omega), show (8 * k + i) / 8 = k by omega, show (8 * k + i) % 8 = i by omega]
theorem take_xor {a b : List Int} {k : Nat} (ha : k < a.length) (hb : k < b.length) : List.take (k + 1) (xorRow a b) = List.take k (xorRow a b) ++ [ixor .u8 (a.getD k 0) (b.getD k 0)] := by
  rw [List.take_add_one, List.getElem?_eq_getElem (by rw [xorRow_length]; omega), ← xorRow_get ha hb, List.getD_eq_getElem?_getD, List.getElem?_eq_getElem (by rw [xorRow_length]; omega)]
  rfl
theorem or_hex : ∀ p, p < 16 → ∀ q, q < 16 → ior .u8 (ishl .u8 ((p : Nat) : Int) 4) ((q : Nat) : Int) = 16 * p + q := by decide +kernel
theorem unOk_false {s : ByteArray} {k : Nat} (hk : k < s.size / 2) (h : (!decide (0 ≤ digF (sB s (2 * k))) || !decide (0 ≤ digF (sB s (2 * k + 1)))) = true) : unOk s = false := by
  cases hu : unOk s with
  | false => rfl
  | true =>
    have := unOkN_le (s := s) (k := k + 1) (n := s.size / 2 - (k + 1)) (by rw [show k + 1 + (s.size / 2 - (k + 1)) = s.size / 2 by omega]; exact hu)
    rw [unOkN_succ, Bool.and_eq_true, Bool.and_eq_true] at this
    rw [this.2.1, this.2.2] at h
    exact absurd h (by decide)
end Go.Sx
