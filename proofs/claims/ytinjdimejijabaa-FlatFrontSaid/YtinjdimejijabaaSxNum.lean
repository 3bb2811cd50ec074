/- Part of the proof: SxNum. -/
import Derived.Test.YtinjdimejijabaaSxHelp
set_option linter.unusedVariables false
set_option linter.unusedSimpArgs false
namespace Go.Sx
def ZhL (v : Int) : Nat -> List Int
  | 0 => []
  | k + 1 => ZhL v k ++ [(v / 256 ^ k) % 256]
theorem Zdg (v : Int) : ∀ k, (ZhL v k).length = k
  | 0 => rfl
  | k + 1 => by simp [ZhL, Zdg v k]
theorem Zop (v : Int) : ∀ k, Byt (ZhL v k)
  | 0 => by simp [ZhL, Byt]
  | k + 1 => fun x hx => by
    rw [ZhL] at hx
    rcases List.mem_append.1 hx with h | h
    · exact Zop v k x h
    · simp at h; omega
end Go.Sx
