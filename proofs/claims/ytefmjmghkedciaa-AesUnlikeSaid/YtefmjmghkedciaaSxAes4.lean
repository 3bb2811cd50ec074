/- The example of the standard. -/
import Derived.Test.YtefmjmghkedciaaSxAes3
set_option linter.unusedVariables false
set_option linter.unusedSimpArgs false
namespace Go.Sx
def exK : ByteArray := ⟨#[48, 48, 48, 49, 48, 50, 48, 51, 48, 52, 48, 53, 48, 54, 48, 55, 48, 56, 48, 57, 48, 97, 48, 98, 48, 99, 48, 100, 48, 101, 48, 102]⟩
def exB : ByteArray := ⟨#[48, 48, 49, 49, 50, 50, 51, 51, 52, 52, 53, 53, 54, 54, 55, 55, 56, 56, 57, 57, 97, 97, 98, 98, 99, 99, 100, 100, 101, 101, 102, 102]⟩
def exC : ByteArray := ⟨#[54, 57, 99, 52, 101, 48, 100, 56, 54, 97, 55, 98, 48, 52, 51, 48, 100, 56, 99, 100, 98, 55, 56, 48, 55, 48, 98, 52, 99, 53, 53, 97]⟩
theorem ex_ok : (exK.size ≤ 1000000 ∧ unOk exK = true) ∧ (exB.size ≤ 1000000 ∧ unOk exB = true) ∧ exC.size ≤ 1000000 ∧ unOk exC = true := by decide +kernel
theorem ex_K : blkL exK = [0, 1, 2, 3, 4, 5, 6, 7, 8, 9, 10, 11, 12, 13, 14, 15] := by decide +kernel
theorem ex_B : blkL exB = [0, 17, 34, 51, 68, 85, 102, 119, 136, 153, 170, 187, 204, 221, 238, 255] := by decide +kernel
theorem ex_C : blkL exC = [0x69, 0xc4, 0xe0, 0xd8, 0x6a, 0x7b, 0x04, 0x30, 0xd8, 0xcd, 0xb7, 0x80, 0x70, 0xb4, 0xc5, 0x5a] := by decide +kernel
theorem ex_k2 : kRun [0, 1, 2, 3, 4, 5, 6, 7, 8, 9, 10, 11, 12, 13, 14, 15] 1 = ([0, 1, 2, 3, 4, 5, 6, 7, 8, 9, 10, 11, 12, 13, 14, 15, 0xd6, 0xaa, 0x74, 0xfd, 0xd2, 0xaf, 0x72, 0xfa, 0xda, 0xa6, 0x78, 0xf1, 0xd6, 0xab, 0x76, 0xfe], 2) := by decide +kernel
def exKeys : List Int := keysL [0, 1, 2, 3, 4, 5, 6, 7, 8, 9, 10, 11, 12, 13, 14, 15]
set_option maxRecDepth 20000 in
theorem ex_keys : exKeys = [0, 1, 2, 3, 4, 5, 6, 7, 8, 9, 10, 11, 12, 13, 14, 15, 214, 170, 116, 253, 210, 175, 114, 250, 218, 166, 120, 241, 214, 171, 118, 254, 182, 146, 207, 11, 100, 61, 189, 241, 190, 155, 197, 0, 104, 48, 179, 254, 182, 255, 116, 78, 210, 194, 201, 191, 108, 89, 12, 191, 4, 105, 191, 65, 71, 247, 247, 188, 149, 53, 62, 3, 249, 108, 50, 188, 253, 5, 141, 253, 60, 170, 163, 232, 169, 159, 157, 235, 80, 243, 175, 87, 173, 246, 34, 170, 94, 57, 15, 125, 247, 166, 146, 150, 167, 85, 61, 193, 10, 163, 31, 107, 20, 249, 112, 26, 227, 95, 226, 140, 68, 10, 223, 77, 78, 169, 192, 38, 71, 67, 135, 53, 164, 28, 101, 185, 224, 22, 186, 244, 174, 191, 122, 210, 84, 153, 50, 209, 240, 133, 87, 104, 16, 147, 237, 156, 190, 44, 151, 78, 19, 17, 29, 127, 227, 148, 74, 23, 243, 7, 167, 139, 77, 43, 48, 197] := by decide +kernel
set_option maxRecDepth 20000 in
theorem ex_enc : encL (keysL (blkL exK)) (blkL exB) = blkL exC := by decide +kernel
theorem blkL_ok {s : ByteArray} (h : unOk s = true) : BlkOk (blkL s) := by
  refine ⟨by simp [blkL], fun x hx => ?_⟩
  unfold blkL at hx
  obtain ⟨i, _, rfl⟩ := List.mem_map.1 hx
  by_cases hi : i < s.size / 2
  · unfold unL
    rw [range_getD hi]
    have ok := unOkN_le (k := i + 1) (n := s.size / 2 - (i + 1)) (by rw [show i + 1 + (s.size / 2 - (i + 1)) = s.size / 2 by omega]; exact h)
    rw [unOkN_succ, Bool.and_eq_true, Bool.and_eq_true, decide_eq_true_eq, decide_eq_true_eq] at ok
    have r1 := digF_ran (sB s (2 * i))
    have r2 := digF_ran (sB s (2 * i + 1))
    unfold unAt
    omega
  · rw [getD_out (by unfold unL; simp; omega)]; omega
end Go.Sx
