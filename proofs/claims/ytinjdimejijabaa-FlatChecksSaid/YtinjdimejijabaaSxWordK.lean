/- Part of the proof: SxWordK. -/
import Derived.Test.YtinjdimejijabaaSxRegion4
import Derived.Test.YtinjdimejijabaaSxOpW
set_option linter.unusedVariables false
set_option linter.unusedSimpArgs false
namespace Go.Sx
namespace PlanV
def opCode (p : PlanV) (o : OpV) : Int :=
  if p.right = true then (if 1 <= o.okind /\ o.okind <= 6 then (if o.okind = 6 then 0 else p.codeOf o.oat (if o.okind = 5 then 1 else o.on)) else 1) else 4
def opB (p : PlanV) (o : OpV) : Bool := p.opCode o == 0 && !(o.okind == 6)
def opLine (p : PlanV) (o : OpV) : Int := if p.opB o = true then o.oat / 32 else 0
theorem opc4 {p : PlanV} {o : OpV} (h : p.right = false) : p.opCode o = 4 := by unfold opCode; rw [if_neg (by rw [h]; decide)]
theorem opc1 {p : PlanV} {o : OpV} (h : p.right = true) (hk : ¬ (1 <= o.okind /\ o.okind <= 6)) : p.opCode o = 1 := by unfold opCode; rw [if_pos h, if_neg hk]
theorem opc0 {p : PlanV} {o : OpV} (h : p.right = true) (hk : o.okind = 6) : p.opCode o = 0 := by unfold opCode; rw [if_pos h, if_pos (by omega), if_pos hk]
theorem opcF {p : PlanV} {o : OpV} (h : p.right = true) (hk : o.okind = 5) : p.opCode o = p.codeOf o.oat 1 := by unfold opCode; rw [if_pos h, if_pos (by omega), if_neg (by omega), if_pos hk]
theorem opcE {p : PlanV} {o : OpV} (h : p.right = true) (h1 : 1 <= o.okind) (h2 : o.okind <= 4) : p.opCode o = p.codeOf o.oat o.on := by unfold opCode; rw [if_pos h, if_pos (by omega), if_neg (by omega), if_neg (by omega)]
theorem Zyt {p : PlanV} {a n : Int} (h : p.codeOf a n = 0) : 0 <= a /\ a < p.tags := by
  unfold codeOf at h
  split at h
  · split at h
    · split at h
      · assumption
      · cases h
    · cases h
  · cases h
theorem opB_at {p : PlanV} {o : OpV} (h : p.opCode o = 0) (hk : o.okind ≠ 6) : 0 <= o.oat /\ o.oat < p.tags := by
  unfold opCode at h
  split at h
  · split at h
    · try rw [if_neg hk] at h
      exact Zyt h
    · cases h
  · cases h
end PlanV
end Go.Sx
