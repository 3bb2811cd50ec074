/- The byte that stands for another one, by its inverse; products in a field. -/
import Derived.Test.YtefmjmghkedciaaSxAes8
set_option linter.unusedVariables false
set_option linter.unusedSimpArgs false
namespace Go.Sx
def invI (x : Int) : Int := ((invT.getD x.toNat 0 : Nat) : Int)
theorem inv_byte : ∀ n, n < 256 → invT.getD n 0 < 256 ∧ (invT.getD n 0 = 0 ↔ n = 0) := by decide +kernel
theorem invI_ok {x : Int} (h : 0 ≤ x ∧ x < 256) : (0 ≤ invI x ∧ invI x < 256) ∧ (invI x = 0 ↔ x = 0) := by
  have := inv_byte x.toNat (by omega)
  unfold invI
  omega
theorem mulB_one {x y : Int} (hx : 0 ≤ x ∧ x < 256) (hy : 0 ≤ y ∧ y < 256) : mulB x y = 1 ↔ x ≠ 0 ∧ y = invI x := by
  have i := invI_ok hx
  have e1 : mulB x y = 1 ↔ mv (bv x) (bv y) = 1#8 := by
    rw [← mulB_bits hx hy]
    exact ⟨fun h => by rw [h]; decide, fun h => bv_inj (mulB_byte _ _) (by omega) (by rw [h]; decide)⟩
  have e2 : x ≠ 0 ↔ bv x ≠ 0#8 := ⟨fun h e => h (bv_inj hx (by omega) (by rw [e]; decide)), fun h e => h (by rw [e]; decide)⟩
  have e3 : y = invI x ↔ bv y = invV (bv x) := by
    have : bv (invI x) = invV (bv x) := by
      obtain ⟨n, rfl⟩ := Int.eq_ofNat_of_zero_le hx.1
      unfold invI invV bv
      rw [BitVec.ofInt_natCast, BitVec.ofInt_natCast, BitVec.toNat_ofNat, Nat.mod_eq_of_lt (by omega : n < 2 ^ 8)]
      rfl
    rw [← this]
    exact ⟨fun h => by rw [h], fun h => bv_inj hy i.1 h⟩
  rw [e1, e2, e3]
  exact mv_iff _ _
/-- What the loop finds: the last one so far. -/
def lastI (x i : Int) : Int := if x ≠ 0 ∧ invI x < i then invI x else 0
theorem lastI_step {x i : Int} (hx : 0 ≤ x ∧ x < 256) (hi : 1 ≤ i ∧ i < 256) : ((mulB x i == 1) = true → lastI x (i + 1) = i) ∧ ((mulB x i == 1) = false → lastI x (i + 1) = lastI x i) := by
  have k := mulB_one hx (y := i) (by omega)
  unfold lastI
  constructor <;> intro h
  · have := k.1 (by simpa using h)
    rw [if_pos (by omega)]; omega
  · have h2 : ¬ (x ≠ 0 ∧ i = invI x) := fun e => by rw [k.2 e] at h; exact absurd h (by decide)
    by_cases h3 : x ≠ 0 ∧ invI x < i
    · rw [if_pos (by omega), if_pos h3]
    · rw [if_neg (by omega), if_neg h3]
theorem lastI_end {x : Int} (hx : 0 ≤ x ∧ x < 256) : lastI x 256 = invI x := by
  have := invI_ok hx
  unfold lastI
  by_cases h : x ≠ 0 ∧ invI x < 256
  · rw [if_pos h]
  · rw [if_neg h]; omega
/-- The bits of what stands for a byte, added up. -/
def bitS (b i : Int) : Int := ixor .i64 (ixor .i64 (ixor .i64 (ixor .i64 (ixor .i64 (ishr .i64 b i) (ishr .i64 b ((IntKind.i64.wrap (i + 4)).tmod 8))) (ishr .i64 b ((IntKind.i64.wrap (i + 5)).tmod 8))) (ishr .i64 b ((IntKind.i64.wrap (i + 6)).tmod 8))) (ishr .i64 b ((IntKind.i64.wrap (i + 7)).tmod 8))) (ishr .i64 99 i)
def sumS (b : Int) : Nat → Int
  | 0 => 0
  | i + 1 => (sumS b i + ishl .i64 (iand .i64 (bitS b (i : Nat)) 1) (i : Nat) + 9223372036854775808) % 18446744073709551616 - 9223372036854775808
theorem sumS_each : ∀ n, n < 256 → IntKind.u8.wrap (sumS (invI (n : Nat)) 8) = subB (n : Nat) := by decide +kernel
theorem sumS_end {x : Int} (hx : 0 ≤ x ∧ x < 256) : IntKind.u8.wrap (sumS (invI x) 8) = subB x := by
  obtain ⟨n, rfl⟩ := Int.eq_ofNat_of_zero_le hx.1
  exact sumS_each n (by omega)
/-- How many make 1, so far. -/
def onesI (x i : Int) : Int := if x ≠ 0 ∧ invI x < i then 1 else 0
theorem onesI_step {x i : Int} (hx : 0 ≤ x ∧ x < 256) (hi : 0 ≤ i ∧ i < 256) : ((mulB x i == 1) = true → onesI x (i + 1) = onesI x i + 1) ∧ ((mulB x i == 1) = false → onesI x (i + 1) = onesI x i) := by
  have k := mulB_one hx (y := i) (by omega)
  unfold onesI
  constructor <;> intro h
  · have := k.1 (by simpa using h)
    rw [if_pos (by omega), if_neg (by omega)]; rfl
  · have h2 : ¬ (x ≠ 0 ∧ i = invI x) := fun e => by rw [k.2 e] at h; exact absurd h (by decide)
    by_cases h3 : x ≠ 0 ∧ invI x < i
    · rw [if_pos (by omega), if_pos h3]
    · rw [if_neg (by omega), if_neg h3]
theorem onesI_end {x : Int} (hx : 0 ≤ x ∧ x < 256) : onesI x 256 = if x = 0 then 0 else 1 := by
  have := invI_ok hx
  unfold onesI
  by_cases h : x = 0
  · rw [if_neg (by omega), if_pos h]
  · rw [if_pos (by omega), if_neg h]
theorem mulB_comm {a b : Int} (ha : 0 ≤ a ∧ a < 256) (hb : 0 ≤ b ∧ b < 256) : mulB a b = mulB b a :=
  bv_inj (mulB_byte _ _) (mulB_byte _ _) (by rw [mulB_bits ha hb, mulB_bits hb ha, mv_comm])
theorem mulB_by1 {a : Int} (ha : 0 ≤ a ∧ a < 256) : mulB a 1 = a :=
  bv_inj (mulB_byte _ _) ha (by rw [mulB_bits ha (by omega), show bv 1 = 1#8 by decide, mv_one])
theorem mulB_assoc {a b c : Int} (ha : 0 ≤ a ∧ a < 256) (hb : 0 ≤ b ∧ b < 256) (hc : 0 ≤ c ∧ c < 256) : mulB a (mulB b c) = mulB (mulB a b) c :=
  bv_inj (mulB_byte _ _) (mulB_byte _ _) (by rw [mulB_bits ha (mulB_byte _ _), mulB_bits hb hc, mulB_bits (mulB_byte _ _) hc, mulB_bits ha hb, mv_assoc])
theorem mulB_add {a b c : Int} (ha : 0 ≤ a ∧ a < 256) (hb : 0 ≤ b ∧ b < 256) (hc : 0 ≤ c ∧ c < 256) : mulB a (ixor .u8 b c) = ixor .u8 (mulB a b) (mulB a c) :=
  bv_inj (mulB_byte _ _) (ixor_u8 _ _) (by rw [mulB_bits ha (ixor_u8 _ _), bv_xor, bv_xor, mulB_bits ha hb, mulB_bits ha hc, mv_addR])
end Go.Sx
