/- Part of the proof: SxAes4. -/
import Derived.Test.YtfffjdfegnmejaaSxAes3
set_option linter.unusedVariables false
set_option linter.unusedSimpArgs false
namespace Go.Sx
def exK : ByteArray := ⟨#[48, 48, 48, 49, 48, 50, 48, 51, 48, 52, 48, 53, 48, 54, 48, 55, 48, 56, 48, 57, 48, 97, 48, 98, 48, 99, 48, 100, 48, 101, 48, 102]⟩
def exB : ByteArray := ⟨#[48, 48, 49, 49, 50, 50, 51, 51, 52, 52, 53, 53, 54, 54, 55, 55, 56, 56, 57, 57, 97, 97, 98, 98, 99, 99, 100, 100, 101, 101, 102, 102]⟩
def exC : ByteArray := ⟨#[54, 57, 99, 52, 101, 48, 100, 56, 54, 97, 55, 98, 48, 52, 51, 48, 100, 56, 99, 100, 98, 55, 56, 48, 55, 48, 98, 52, 99, 53, 53, 97]⟩
theorem ex_ok : (exK.size <= 1000000 /\ ZoA exK = true) /\ (exB.size <= 1000000 /\ ZoA exB = true) /\ exC.size <= 1000000 /\ ZoA exC = true := by decide +kernel
set_option maxRecDepth 20000 in
theorem ZLw : ZdO (ZfP (ZfL exK)) (ZfL exB) = ZfL exC := by decide +kernel
theorem Zq0 {s : ByteArray} (h : ZoA s = true) : Zaz (ZfL s) := by
  refine ⟨by simp [ZfL], fun x hx => ?_⟩
  unfold ZfL at hx
  obtain ⟨i, _, rfl⟩ := List.mem_map.1 hx
  by_cases hi : i < s.size / 2
  · unfold unL
    rw [ZcU hi]
    have ok := Zll (k := i + 1) (n := s.size / 2 - (i + 1)) (by rw [show i + 1 + (s.size / 2 - (i + 1)) = s.size / 2 by omega]; exact h)
    rw [Zhn, Bool.and_eq_true, Bool.and_eq_true, decide_eq_true_eq, decide_eq_true_eq] at ok
    have r1 := ZiH (sB s (2 * i))
    have r2 := ZiH (sB s (2 * i + 1))
    unfold ZEW
    omega
  · rw [ZlL (by unfold unL; simp; omega)]; omega
end Go.Sx
