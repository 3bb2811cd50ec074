/- Texts of bytes, in plain Lean. -/
import Derived.Test.YtefmjmghkedciaaSxAes2
set_option linter.unusedVariables false
set_option linter.unusedSimpArgs false
namespace Go.Sx
def sB (s : ByteArray) (i : Nat) : Int := ((s.data.toList.getD i 0).toNat : Nat)
def unAt (s : ByteArray) (k : Nat) : Int := 16 * digF (sB s (2 * k)) + digF (sB s (2 * k + 1))
def unOkN (s : ByteArray) (k : Nat) : Bool := (List.range k).all fun j => decide (0 ≤ digF (sB s (2 * j))) && decide (0 ≤ digF (sB s (2 * j + 1)))
def unOk (s : ByteArray) : Bool := unOkN s (s.size / 2)
def unL (s : ByteArray) : List Int := (List.range (s.size / 2)).map (unAt s)
def blkL (s : ByteArray) : List Int := (List.range 16).map fun i => (unL s).getD i 0
theorem digGo_ran : ∀ k j c, j + k ≤ 16 → -1 ≤ digGo k j c ∧ digGo k j c < 16
  | 0, _, _, _ => by simp [digGo]
  | k + 1, j, c, h => by
    unfold digGo
    split
    · omega
    · exact digGo_ran k (j + 1) c (by omega)
theorem digF_ran (c : Int) : -1 ≤ digF c ∧ digF c < 16 := digGo_ran 16 0 c (by omega)
theorem sB_byte (s : ByteArray) (i : Nat) : 0 ≤ sB s i ∧ sB s i < 256 := by
  unfold sB
  have := (s.data.toList.getD i 0).toNat_lt
  omega
theorem unOkN_succ (s : ByteArray) (k : Nat) : unOkN s (k + 1) = (unOkN s k && (decide (0 ≤ digF (sB s (2 * k))) && decide (0 ≤ digF (sB s (2 * k + 1))))) := by
  unfold unOkN; rw [List.range_succ, List.all_append]; simp
theorem unOkN_le {s : ByteArray} : ∀ {n k : Nat}, unOkN s (k + n) = true → unOkN s k = true
  | 0, _, h => h
  | n + 1, k, h => by
    rw [← Nat.add_assoc, unOkN_succ, Bool.and_eq_true] at h
    exact unOkN_le h.1
end Go.Sx
