/- Two parts of the proof. -/
import Derived.Test.YtfffjdfegnmejaaSxOpW
import Derived.Test.YtfffjdfegnmejaaSxFitV
import Derived.Test.YtfffjdfegnmejaaSxPutL
set_option linter.unusedVariables false
set_option linter.unusedSimpArgs false
namespace Go.Sx
namespace OpV
end OpV
end Go.Sx

namespace Go.Sx
def dbl (a : Int) : Int := if 0 < ZaR .u8 a 128 then Zar .u8 (Zgv .u8 a 1) 27 else Zgv .u8 a 1
def ZgK : Nat -> Int -> Int -> Int -> Int
  | 0, _, _, o => o
  | k + 1, a, b, o => if 0 < b then ZgK k (dbl a) (ZbF .u8 b 1) (if 0 < ZaR .u8 b 1 then Zar .u8 o a else o) else o
def Zb1 (a b : Int) : Int := ZgK 8 a b 0
def ZuN (x k : Int) : Int := ior .u8 (Zgv .u8 x k) (ZbF .u8 x (8 - k))
def pwN : Nat -> Int
  | 0 => 254
  | i + 1 => ZbF .i64 (pwN i) 1
def pwS (x : Int) : Nat -> Int × Int
  | 0 => (1, x)
  | i + 1 => (if 0 < ZaR .i64 (pwN i) 1 then Zb1 (pwS x i).1 (pwS x i).2 else (pwS x i).1, Zb1 (pwS x i).2 (pwS x i).2)
theorem ZuV : ∀ i, i <= 8 -> (0 < pwN i ↔ i < 8)
  | 0, _ | 1, _ | 2, _ | 3, _ | 4, _ | 5, _ | 6, _ | 7, _ | 8, _ => by decide +kernel
  | i + 9, h => by omega
theorem ZLf : ∀ i, i < 8 -> (pwN (i + 1)).toNat < (pwN i).toNat
  | 0, _ | 1, _ | 2, _ | 3, _ | 4, _ | 5, _ | 6, _ | 7, _ => by decide +kernel
  | i + 8, h => by omega
def ZCf (v : Int) : Nat -> Int
  | 0 => 99
  | i + 1 => Zar .u8 (ZCf v i) (ZuN v i)
def ZN8 (x : Int) : Int := ZCf (pwS x 8).1 5
def sboxT : List Int := [99, 124, 119, 123, 242, 107, 111, 197, 48, 1, 103, 43, 254, 215, 171, 118, 202, 130, 201, 125, 250, 89, 71, 240, 173, 212, 162, 175, 156, 164, 114, 192, 183, 253, 147, 38, 54, 63, 247, 204, 52, 165, 229, 241, 113, 216, 49, 21, 4, 199, 35, 195, 24, 150, 5, 154, 7, 18, 128, 226, 235, 39, 178, 117, 9, 131, 44, 26, 27, 110, 90, 160, 82, 59, 214, 179, 41, 227, 47, 132, 83, 209, 0, 237, 32, 252, 177, 91, 106, 203, 190, 57, 74, 76, 88, 207, 208, 239, 170, 251, 67, 77, 51, 133, 69, 249, 2, 127, 80, 60, 159, 168, 81, 163, 64, 143, 146, 157, 56, 245, 188, 182, 218, 33, 16, 255, 243, 210, 205, 12, 19, 236, 95, 151, 68, 23, 196, 167, 126, 61, 100, 93, 25, 115, 96, 129, 79, 220, 34, 42, 144, 136, 70, 238, 184, 20, 222, 94, 11, 219, 224, 50, 58, 10, 73, 6, 36, 92, 194, 211, 172, 98, 145, 149, 228, 121, 231, 200, 55, 109, 141, 213, 78, 169, 108, 86, 244, 234, 101, 122, 174, 8, 186, 120, 37, 46, 28, 166, 180, 198, 232, 221, 116, 31, 75, 189, 139, 138, 112, 62, 181, 102, 72, 3, 246, 14, 97, 53, 87, 185, 134, 193, 29, 158, 225, 248, 152, 17, 105, 217, 142, 148, 155, 30, 135, 233, 206, 85, 40, 223, 140, 161, 137, 13, 191, 230, 66, 104, 65, 153, 45, 15, 176, 84, 187, 22]
def ZcR (x : Int) : Int := sboxT.getD x.toNat 0
theorem Zc4 (a b : Int) : 0 <= Zar .u8 a b /\ Zar .u8 a b < 256 := by unfold Zar; rw [wrap_u8]; omega
theorem ZkH : ∀ k a b o, (0 <= o /\ o < 256) -> 0 <= ZgK k a b o /\ ZgK k a b o < 256
  | 0, _, _, o, h => h
  | k + 1, a, b, o, h => by
    unfold ZgK
    split
    · apply ZkH
      split
      · exact Zc4 _ _
      · exact h
    · exact h
theorem Ze2 (a b : Int) : 0 <= Zb1 a b /\ Zb1 a b < 256 := ZkH 8 a b 0 (by omega)
theorem ZrY {x : Int} (h : 0 <= x /\ x < 256) : ∀ i, (0 <= (pwS x i).1 /\ (pwS x i).1 < 256) /\ 0 <= (pwS x i).2 /\ (pwS x i).2 < 256
  | 0 => by unfold pwS; omega
  | i + 1 => by
    have ih := ZrY h i
    unfold pwS
    refine ⟨?_, Ze2 _ _⟩
    show 0 <= (if 0 < ZaR .i64 (pwN i) 1 then Zb1 (pwS x i).1 (pwS x i).2 else (pwS x i).1) /\ _ < (256 : Int)
    split
    · exact Ze2 _ _
    · exact ih.1
theorem ZLu {b : Int} (h : 0 <= b) : ZbF .u8 b 1 = b / 2 := by rw [Zxs _ _ _ (by decide)]; rfl
theorem ZiI (a : Int) : 0 <= dbl a /\ dbl a < 256 := by
  unfold dbl
  split
  · exact Zc4 _ _
  · unfold Zgv; rw [wrap_u8]; omega
theorem ZAF : (List.range 256).all (fun x => decide (ZN8 x = ZcR x)) = true := by decide +kernel
theorem ZAE {x : Int} (h : 0 <= x /\ x < 256) : ZN8 x = ZcR x := by
  obtain ⟨n, rfl⟩ := Int.eq_ofNat_of_zero_le h.1
  exact of_decide_eq_true (List.all_eq_true.1 ZAF n (by simp; omega))
attribute [irreducible] sboxT
end Go.Sx
