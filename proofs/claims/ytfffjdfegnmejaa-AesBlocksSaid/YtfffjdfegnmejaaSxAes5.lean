/- Part of the proof: SxAes5. -/
import Derived.Test.YtfffjdfegnmejaaSxAes2
set_option linter.unusedVariables false
set_option linter.unusedSimpArgs false
namespace Go.Sx
def isboxT : List Int := [82, 9, 106, 213, 48, 54, 165, 56, 191, 64, 163, 158, 129, 243, 215, 251, 124, 227, 57, 130, 155, 47, 255, 135, 52, 142, 67, 68, 196, 222, 233, 203, 84, 123, 148, 50, 166, 194, 35, 61, 238, 76, 149, 11, 66, 250, 195, 78, 8, 46, 161, 102, 40, 217, 36, 178, 118, 91, 162, 73, 109, 139, 209, 37, 114, 248, 246, 100, 134, 104, 152, 22, 212, 164, 92, 204, 93, 101, 182, 146, 108, 112, 72, 80, 253, 237, 185, 218, 94, 21, 70, 87, 167, 141, 157, 132, 144, 216, 171, 0, 140, 188, 211, 10, 247, 228, 88, 5, 184, 179, 69, 6, 208, 44, 30, 143, 202, 63, 15, 2, 193, 175, 189, 3, 1, 19, 138, 107, 58, 145, 17, 65, 79, 103, 220, 234, 151, 242, 207, 206, 240, 180, 230, 115, 150, 172, 116, 34, 231, 173, 53, 133, 226, 249, 55, 232, 28, 117, 223, 110, 71, 241, 26, 113, 29, 41, 197, 137, 111, 183, 98, 14, 170, 24, 190, 27, 252, 86, 62, 75, 198, 210, 121, 32, 154, 219, 192, 254, 120, 205, 90, 244, 31, 221, 168, 51, 136, 7, 199, 49, 177, 18, 16, 89, 39, 128, 236, 95, 96, 81, 127, 169, 25, 181, 74, 13, 45, 229, 122, 159, 147, 201, 156, 239, 160, 224, 59, 77, 174, 42, 245, 176, 200, 235, 187, 60, 131, 83, 153, 97, 23, 43, 4, 126, 186, 119, 214, 38, 225, 105, 20, 99, 85, 33, 12, 125]
def ZLr (x : Nat) : Prop := isboxT.getD (ZcR x).toNat 0 = x /\ ZcR x ≠ x /\ ZcR x ≠ Zar .u8 255 x
instance (x : Nat) : Decidable (ZLr x) := by unfold ZLr; infer_instance
attribute [irreducible] isboxT
def bv (x : Int) : BitVec 8 := BitVec.ofInt 8 x
theorem Zyc (a b : Int) : bv (Zar .u8 a b) = bv a ^^^ bv b := by
  unfold bv Zar
  have h : ((BitVec.ofInt IntKind.u8.bits a ^^^ BitVec.ofInt IntKind.u8.bits b).toNat : Int) < 256 := by
    have h2 : (BitVec.ofInt IntKind.u8.bits a ^^^ BitVec.ofInt IntKind.u8.bits b).toNat < 256 := (BitVec.ofInt IntKind.u8.bits a ^^^ BitVec.ofInt IntKind.u8.bits b).isLt
    exact Int.ofNat_lt.2 h2
  rw [wrap_u8, Int.emod_eq_of_lt (by omega) h]
  show BitVec.ofInt 8 ((BitVec.ofInt 8 a ^^^ BitVec.ofInt 8 b).toNat : Int) = _
  rw [BitVec.ofInt_natCast, BitVec.ofNat_toNat, BitVec.setWidth_eq]
theorem Zot {x y : Int} (hx : 0 <= x /\ x < 256) (hy : 0 <= y /\ y < 256) (h : bv x = bv y) : x = y := by
  have := congrArg BitVec.toNat h
  unfold bv at this
  rw [BitVec.toNat_ofInt, BitVec.toNat_ofInt] at this
  omega
end Go.Sx
