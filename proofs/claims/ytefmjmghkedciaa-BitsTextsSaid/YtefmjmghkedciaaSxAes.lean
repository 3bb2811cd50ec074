/- The cipher, in plain Lean. -/
import Derived.Test.YtefmjmghkedciaaSxOpX
import Derived.Test.YtefmjmghkedciaaSxPutL
set_option linter.unusedVariables false
set_option linter.unusedSimpArgs false
namespace Go.Sx
def dbl (a : Int) : Int := if 0 < iand .u8 a 128 then ixor .u8 (ishl .u8 a 1) 27 else ishl .u8 a 1
def mulGo : Nat → Int → Int → Int → Int
  | 0, _, _, o => o
  | k + 1, a, b, o => if 0 < b then mulGo k (dbl a) (ishr .u8 b 1) (if 0 < iand .u8 b 1 then ixor .u8 o a else o) else o
def mulB (a b : Int) : Int := mulGo 8 a b 0
def rotB (x k : Int) : Int := ior .u8 (ishl .u8 x k) (ishr .u8 x (8 - k))
def pwN : Nat → Int
  | 0 => 254
  | i + 1 => ishr .i64 (pwN i) 1
def pwS (x : Int) : Nat → Int × Int
  | 0 => (1, x)
  | i + 1 => (if 0 < iand .i64 (pwN i) 1 then mulB (pwS x i).1 (pwS x i).2 else (pwS x i).1, mulB (pwS x i).2 (pwS x i).2)
theorem pwN_pos : ∀ i, i ≤ 8 → (0 < pwN i ↔ i < 8)
  | 0, _ | 1, _ | 2, _ | 3, _ | 4, _ | 5, _ | 6, _ | 7, _ | 8, _ => by decide +kernel
  | i + 9, h => by omega
theorem pwN_mu : ∀ i, i < 8 → (pwN (i + 1)).toNat < (pwN i).toNat
  | 0, _ | 1, _ | 2, _ | 3, _ | 4, _ | 5, _ | 6, _ | 7, _ => by decide +kernel
  | i + 8, h => by omega
def rotS (v : Int) : Nat → Int
  | 0 => 99
  | i + 1 => ixor .u8 (rotS v i) (rotB v i)
def subC (x : Int) : Int := rotS (pwS x 8).1 5
def sboxT : List Int := [99, 124, 119, 123, 242, 107, 111, 197, 48, 1, 103, 43, 254, 215, 171, 118, 202, 130, 201, 125, 250, 89, 71, 240, 173, 212, 162, 175, 156, 164, 114, 192, 183, 253, 147, 38, 54, 63, 247, 204, 52, 165, 229, 241, 113, 216, 49, 21, 4, 199, 35, 195, 24, 150, 5, 154, 7, 18, 128, 226, 235, 39, 178, 117, 9, 131, 44, 26, 27, 110, 90, 160, 82, 59, 214, 179, 41, 227, 47, 132, 83, 209, 0, 237, 32, 252, 177, 91, 106, 203, 190, 57, 74, 76, 88, 207, 208, 239, 170, 251, 67, 77, 51, 133, 69, 249, 2, 127, 80, 60, 159, 168, 81, 163, 64, 143, 146, 157, 56, 245, 188, 182, 218, 33, 16, 255, 243, 210, 205, 12, 19, 236, 95, 151, 68, 23, 196, 167, 126, 61, 100, 93, 25, 115, 96, 129, 79, 220, 34, 42, 144, 136, 70, 238, 184, 20, 222, 94, 11, 219, 224, 50, 58, 10, 73, 6, 36, 92, 194, 211, 172, 98, 145, 149, 228, 121, 231, 200, 55, 109, 141, 213, 78, 169, 108, 86, 244, 234, 101, 122, 174, 8, 186, 120, 37, 46, 28, 166, 180, 198, 232, 221, 116, 31, 75, 189, 139, 138, 112, 62, 181, 102, 72, 3, 246, 14, 97, 53, 87, 185, 134, 193, 29, 158, 225, 248, 152, 17, 105, 217, 142, 148, 155, 30, 135, 233, 206, 85, 40, 223, 140, 161, 137, 13, 191, 230, 66, 104, 65, 153, 45, 15, 176, 84, 187, 22]
def subB (x : Int) : Int := sboxT.getD x.toNat 0
theorem ixor_u8 (a b : Int) : 0 ≤ ixor .u8 a b ∧ ixor .u8 a b < 256 := by unfold ixor; rw [wrap_u8]; omega
theorem mulGo_byte : ∀ k a b o, (0 ≤ o ∧ o < 256) → 0 ≤ mulGo k a b o ∧ mulGo k a b o < 256
  | 0, _, _, o, h => h
  | k + 1, a, b, o, h => by
    unfold mulGo
    split
    · apply mulGo_byte
      split
      · exact ixor_u8 _ _
      · exact h
    · exact h
theorem mulB_byte (a b : Int) : 0 ≤ mulB a b ∧ mulB a b < 256 := mulGo_byte 8 a b 0 (by omega)
theorem pwS_byte {x : Int} (h : 0 ≤ x ∧ x < 256) : ∀ i, (0 ≤ (pwS x i).1 ∧ (pwS x i).1 < 256) ∧ 0 ≤ (pwS x i).2 ∧ (pwS x i).2 < 256
  | 0 => by unfold pwS; omega
  | i + 1 => by
    have ih := pwS_byte h i
    unfold pwS
    refine ⟨?_, mulB_byte _ _⟩
    show 0 ≤ (if 0 < iand .i64 (pwN i) 1 then mulB (pwS x i).1 (pwS x i).2 else (pwS x i).1) ∧ _ < (256 : Int)
    split
    · exact mulB_byte _ _
    · exact ih.1
theorem half8 {b : Int} (h : 0 ≤ b) : ishr .u8 b 1 = b / 2 := by rw [ishr_eq _ _ _ (by decide)]; rfl
theorem dbl_byte (a : Int) : 0 ≤ dbl a ∧ dbl a < 256 := by
  unfold dbl
  split
  · exact ixor_u8 _ _
  · unfold ishl; rw [wrap_u8]; omega
theorem sub_all : (List.range 256).all (fun x => decide (subC x = subB x)) = true := by decide +kernel
theorem sub_tab {x : Int} (h : 0 ≤ x ∧ x < 256) : subC x = subB x := by
  obtain ⟨n, rfl⟩ := Int.eq_ofNat_of_zero_le h.1
  exact of_decide_eq_true (List.all_eq_true.1 sub_all n (by simp; omega))
attribute [irreducible] sboxT
end Go.Sx
