/- Part of the proof: SxRegion4. -/
import Derived.Test.YtinjdimejijabaaSxRegion3
set_option linter.unusedVariables false
set_option linter.unusedSimpArgs false
namespace Go.Sx
namespace PlanV
theorem line_bad {p : PlanV} {a n k : Int} (h : p.codeOf a n = k) (hk : k ≠ 0) : 0 = p.lnOf a n /\ 0 = p.offOf a n /\ k = p.codeOf a n := by
  unfold lnOf offOf
  rw [h, if_neg hk, if_neg hk]; exact ⟨rfl, rfl, rfl⟩
theorem line_ok {p : PlanV} {a n : Int} (h : p.codeOf a n = 0) : a / 32 = p.lnOf a n /\ a % 32 = p.offOf a n /\ 0 = p.codeOf a n := by
  unfold lnOf offOf
  rw [h, if_pos rfl, if_pos rfl]; exact ⟨rfl, rfl, rfl⟩
theorem code4 {p : PlanV} {a n : Int} (h : p.right = false) : p.codeOf a n = 4 := by unfold codeOf; rw [if_neg (by rw [h]; decide)]
theorem code1 {p : PlanV} {a n : Int} (h : p.right = true) (hn : ¬ (n = 1 ∨ n = 2 ∨ n = 4 ∨ n = 8)) : p.codeOf a n = 1 := by unfold codeOf; rw [if_pos h, if_neg hn]
theorem code2 {p : PlanV} {a n : Int} (h : p.right = true) (hn : n = 1 ∨ n = 2 ∨ n = 4 ∨ n = 8) (ha : ¬ (0 <= a /\ a < p.tags)) : p.codeOf a n = 2 := by unfold codeOf; rw [if_pos h, if_pos hn, if_neg ha]
theorem code9 {p : PlanV} {a n : Int} (h : p.right = true) (hn : n = 1 ∨ n = 2 ∨ n = 4 ∨ n = 8) (ha : 0 <= a /\ a < p.tags) (hm : ¬ (a % n = 0)) : p.codeOf a n = 9 := by unfold codeOf; rw [if_pos h, if_pos hn, if_pos ha, if_neg hm]
theorem code0 {p : PlanV} {a n : Int} (h : p.right = true) (hn : n = 1 ∨ n = 2 ∨ n = 4 ∨ n = 8) (ha : 0 <= a /\ a < p.tags) (hm : a % n = 0) : p.codeOf a n = 0 := by unfold codeOf; rw [if_pos h, if_pos hn, if_pos ha, if_pos hm]
end PlanV
end Go.Sx
