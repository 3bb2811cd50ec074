/- Part of the proof: SxAes9. -/
import Derived.Test.YtfffjdfegnmejaaSxAes8
set_option linter.unusedVariables false
set_option linter.unusedSimpArgs false
namespace Go.Sx
def ZkP (x : Int) : Int := ((invT.getD x.toNat 0 : Nat) : Int)
theorem Zzk : ∀ n, n < 256 -> invT.getD n 0 < 256 /\ (invT.getD n 0 = 0 ↔ n = 0) := by decide +kernel
theorem Zo2 {x : Int} (h : 0 <= x /\ x < 256) : (0 <= ZkP x /\ ZkP x < 256) /\ (ZkP x = 0 ↔ x = 0) := by
  have := Zzk x.toNat (by omega)
  unfold ZkP
  omega
theorem Zzd {x y : Int} (hx : 0 <= x /\ x < 256) (hy : 0 <= y /\ y < 256) : Zb1 x y = 1 ↔ x ≠ 0 /\ y = ZkP x := by
  have i := Zo2 hx
  have e1 : Zb1 x y = 1 ↔ mv (bv x) (bv y) = 1#8 := by
    rw [<- ZnZ hx hy]
    exact ⟨fun h => by rw [h]; decide, fun h => Zot (Ze2 _ _) (by omega) (by rw [h]; decide)⟩
  have e2 : x ≠ 0 ↔ bv x ≠ 0#8 := ⟨fun h e => h (Zot hx (by omega) (by rw [e]; decide)), fun h e => h (by rw [e]; decide)⟩
  have e3 : y = ZkP x ↔ bv y = ZEX (bv x) := by
    have : bv (ZkP x) = ZEX (bv x) := by
      obtain ⟨n, rfl⟩ := Int.eq_ofNat_of_zero_le hx.1
      unfold ZkP ZEX bv
      rw [BitVec.ofInt_natCast, BitVec.ofInt_natCast, BitVec.toNat_ofNat, Nat.mod_eq_of_lt (by omega : n < 2 ^ 8)]
      rfl
    rw [<- this]
    exact ⟨fun h => by rw [h], fun h => Zot hy i.1 h⟩
  rw [e1, e2, e3]
  exact ZLn _ _
def ZjB (x i : Int) : Int := if x ≠ 0 /\ ZkP x < i then ZkP x else 0
theorem Zs9 {x i : Int} (hx : 0 <= x /\ x < 256) (hi : 1 <= i /\ i < 256) : ((Zb1 x i == 1) = true -> ZjB x (i + 1) = i) /\ ((Zb1 x i == 1) = false -> ZjB x (i + 1) = ZjB x i) := by
  have k := Zzd hx (y := i) (by omega)
  unfold ZjB
  constructor <;> intro h
  · have := k.1 (by simpa using h)
    rw [if_pos (by omega)]; omega
  · have h2 : ¬ (x ≠ 0 /\ i = ZkP x) := fun e => by rw [k.2 e] at h; exact absurd h (by decide)
    by_cases h3 : x ≠ 0 /\ ZkP x < i
    · rw [if_pos (by omega), if_pos h3]
    · rw [if_neg (by omega), if_neg h3]
theorem Zwq {x : Int} (hx : 0 <= x /\ x < 256) : ZjB x 256 = ZkP x := by
  have := Zo2 hx
  unfold ZjB
  by_cases h : x ≠ 0 /\ ZkP x < 256
  · rw [if_pos h]
  · rw [if_neg h]; omega
def ZO0 (b i : Int) : Int := Zar .i64 (Zar .i64 (Zar .i64 (Zar .i64 (Zar .i64 (ZbF .i64 b i) (ZbF .i64 b ((IntKind.i64.wrap (i + 4)).tmod 8))) (ZbF .i64 b ((IntKind.i64.wrap (i + 5)).tmod 8))) (ZbF .i64 b ((IntKind.i64.wrap (i + 6)).tmod 8))) (ZbF .i64 b ((IntKind.i64.wrap (i + 7)).tmod 8))) (ZbF .i64 99 i)
def ZzJ (b : Int) : Nat -> Int
  | 0 => 0
  | i + 1 => (ZzJ b i + Zgv .i64 (ZaR .i64 (ZO0 b (i : Nat)) 1) (i : Nat) + 9223372036854775808) % 18446744073709551616 - 9223372036854775808
theorem ZuG : ∀ n, n < 256 -> IntKind.u8.wrap (ZzJ (ZkP (n : Nat)) 8) = ZcR (n : Nat) := by decide +kernel
theorem ZyO {x : Int} (hx : 0 <= x /\ x < 256) : IntKind.u8.wrap (ZzJ (ZkP x) 8) = ZcR x := by
  obtain ⟨n, rfl⟩ := Int.eq_ofNat_of_zero_le hx.1
  exact ZuG n (by omega)
end Go.Sx
