/- Counters, in plain Lean. -/
import Derived.Test.YtefmjmghkedciaaSxV1
import Derived.Test.YtefmjmghkedciaaSxOpX
set_option linter.unusedVariables false
set_option linter.unusedSimpArgs false
namespace Go.Sx
def sameC (m : Int) (xs : List Int) (k : Int) (ys : List Int) : Bool := m == k && xs == ys
end Go.Sx
namespace Go.Sx
def tagL (b : List Int) (c : Int) : Int := readB ((b.drop (8 * c).toNat).take 8)
def u64I (n : Int) : Int := n % 18446744073709551616
def dataL (n m k : Int) (x : List Int) : List Int := [1] ++ numB (u64I n) 8 ++ numB m 8 ++ numB (u64I k) 2 ++ x
def itemL (l i : Int) (x : List Int) : List Int := [2] ++ numB (u64I l) 1 ++ numB (u64I i) 8 ++ x
end Go.Sx
namespace Go.Sx
namespace PlanV
def top (p : PlanV) : Int := 2 ^ p.minor.toNat - 1
def wrongC (p : PlanV) (m : Int) (xs : List Int) : Int := if p.right = true then (if p.major < m ∨ (xs.length : Int) ≠ p.lines ∨ xs.any (fun x => decide (x < 0) || decide (p.top < x)) = true then 1 else 0) else 4
end PlanV
end Go.Sx
namespace Go.Sx
namespace PlanV
theorem minor_le {p : PlanV} (h : p.right = true) : 0 ≤ p.minor ∧ 1 ≤ p.minor ∧ p.minor ≤ 8 := by
  unfold right at h
  rw [Bool.and_eq_true] at h
  have := of_decide_eq_true h.2
  omega
theorem pow_minor {p : PlanV} (h : p.right = true) : (2 : Int) ≤ 2 ^ p.minor.toNat ∧ (2 : Int) ^ p.minor.toNat ≤ 256 := by
  have hm := minor_le h
  have : p.minor.toNat = 1 ∨ p.minor.toNat = 2 ∨ p.minor.toNat = 3 ∨ p.minor.toNat = 4 ∨ p.minor.toNat = 5 ∨ p.minor.toNat = 6 ∨ p.minor.toNat = 7 ∨ p.minor.toNat = 8 := by omega
  rcases this with e | e | e | e | e | e | e | e <;> rw [e] <;> decide
end PlanV
end Go.Sx
