/- A line's turns. -/
import Derived.Test.YtggpebgigddogaaSxCodeN
set_option linter.unusedVariables false
set_option linter.unusedSimpArgs false
namespace Go.Sx
namespace PlanV
def turnL (p : PlanV) (s : Int) (v : Int) : List Int := (List.replicate p.lines.toNat 0).set s.toNat v
theorem turnL_length (p : PlanV) (s v : Int) : (p.turnL s v).length = p.lines.toNat := by simp [turnL]
theorem turnL_getD {p : PlanV} {s v : Int} (h0 : 0 ≤ s) (h1 : s < p.lines) (i : Nat) : (p.turnL s v).getD i 0 = if i = s.toNat then v else 0 := by
  unfold turnL
  rw [List.getD_eq_getElem?_getD, List.getElem?_set]
  by_cases h : s.toNat = i
  · rw [if_pos h, if_pos (by simp; omega), if_pos h.symm]; rfl
  · rw [if_neg h, if_neg (fun h' => h h'.symm), List.getElem?_replicate]
    split <;> rfl
theorem turnL_wrong {p : PlanV} {s v : Int} (hr : p.right = true) (h0 : 0 ≤ s) (h1 : s < p.lines) (hv : 0 ≤ v) (hv2 : v ≤ p.top) (hm : 0 ≤ p.major) : p.wrongC 0 (p.turnL s v) = 0 := by
  have hf := right_facts hr
  unfold wrongC
  rw [if_pos hr, if_neg]
  rintro (h | h | h)
  · omega
  · rw [turnL_length] at h; omega
  · obtain ⟨x, hx, hb⟩ := List.any_eq_true.1 h
    obtain ⟨i, hi, rfl⟩ := List.getElem_of_mem hx
    have hg := turnL_getD (v := v) h0 h1 i
    rw [List.getD_eq_getElem?_getD, List.getElem?_eq_getElem hi] at hg
    simp only [Option.getD_some] at hg
    rw [hg] at hb
    simp only [Bool.or_eq_true, decide_eq_true_eq] at hb
    split at hb <;> omega
theorem turnL_set {p : PlanV} {s v w : Int} : (p.turnL s v).set s.toNat w = p.turnL s w := by unfold turnL; rw [List.set_set]
theorem turnL_zero {p : PlanV} {s : Int} : p.turnL s 0 = List.replicate p.lines.toNat 0 := by
  unfold turnL
  apply List.ext_getElem (by simp)
  intro i h1 h2
  rw [List.getElem_set]
  simp
theorem ishl_minor {p : PlanV} (h : p.right = true) : ishl .i64 1 p.minor = 2 ^ p.minor.toNat := by
  have hf := right_facts h
  have : p.minor = 1 ∨ p.minor = 2 ∨ p.minor = 3 ∨ p.minor = 4 ∨ p.minor = 5 ∨ p.minor = 6 ∨ p.minor = 7 ∨ p.minor = 8 := by omega
  rcases this with h | h | h | h | h | h | h | h <;> rw [h] <;> decide
end PlanV
end Go.Sx
namespace Go.Sx
def kidB (c : Int) : Bool := decide (0 ≤ c ∧ c ≤ 3)
def kidE (c : Int) : Int := if kidB c = true then 0 else 2
def kidT (b : List Int) (c : Int) : Int := if kidB c = true then tagL b c else 0
def kidW (b : List Int) (c t : Int) : List Int := if kidB c = true then putN b (8 * c).toNat (numB t 8) else List.replicate 32 0
end Go.Sx
