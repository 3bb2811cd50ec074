/- Laws of what stands where in memory. -/
import Derived.Test.YtlmcdbgcbmjilaaSxFitV
namespace Go.Sx
namespace PlanV
theorem width_next {p : PlanV} {l : Int} (hs : p.shaped = true) (h0 : 0 ≤ l) (h1 : l + 1 < p.levels) : p.width (l + 1) = (p.width l + p.arity - 1) / p.arity := by
  obtain ⟨k, rfl⟩ := Int.eq_ofNat_of_zero_le h0
  have W := wid hs
  have hk : k + 1 < p.widths.length := by unfold levels at h1; omega
  have := W.next k hk
  unfold width
  rw [if_pos (by omega), if_pos h0, show ((k : Int) + 1).toNat = k + 1 by omega, Int.toNat_natCast]
  exact this
theorem width_last {p : PlanV} (hs : p.shaped = true) : p.width ((p.levels : Int) - 1) = 1 := by
  have W := wid hs
  have h1 := W.len1
  have := W.last
  unfold width levels
  rw [if_pos (by omega), show ((p.widths.length : Int) - 1).toNat = p.widths.length - 1 by omega]
  exact this
theorem levels_pos {p : PlanV} (hs : p.shaped = true) : 1 ≤ p.levels := (wid hs).len1
theorem aboveB_true {p : PlanV} {x : ItemV} (h : p.aboveB x = true) : p.itemB x = true ∧ x.level + 1 < p.levels := by
  unfold aboveB at h
  simpa only [Bool.and_eq_true, decide_eq_true_eq] using h
theorem upOf_eq {p : PlanV} {x : ItemV} (h : p.aboveB x = true) : p.upOf x = ⟨x.level + 1, x.index / p.arity⟩ := by unfold upOf; rw [if_pos h]
theorem childOf_eq {p : PlanV} {x : ItemV} (h : p.aboveB x = true) : p.childOf x = x.index % p.arity := by unfold childOf; rw [if_pos h]
theorem up_item {p : PlanV} {x : ItemV} (h : p.aboveB x = true) : p.itemB (p.upOf x) = true := by
  obtain ⟨h1, h2⟩ := aboveB_true h
  obtain ⟨g1, g2, g3⟩ := itemB_true h1
  obtain ⟨g4, g5⟩ := width_level (p := p) (l := x.level) (by omega)
  have hs := right_shaped g1
  have hsh := of_decide_eq_true hs
  have hw := width_next hs g4 h2
  rw [upOf_eq h]
  unfold itemB
  simp only [Bool.and_eq_true, decide_eq_true_eq, hw]
  have ha : 0 < p.arity := by omega
  refine ⟨⟨g1, Int.ediv_nonneg g2 (by omega)⟩, ?_⟩
  rw [show p.width x.level + p.arity - 1 = (p.width x.level - 1) + 1 * p.arity by omega, Int.add_mul_ediv_right _ _ (by omega)]
  have := Int.ediv_le_ediv ha (show x.index ≤ p.width x.level - 1 by omega)
  omega
theorem itemAt_eq {p : PlanV} {x : ItemV} (h : p.itemB x = true) : p.itemAt x = p.itemsAt + (p.ahead x.level + x.index) * 32 := by unfold itemAt; rw [if_pos h]
theorem ahead_lt {p : PlanV} {x y : ItemV} (hx : p.itemB x = true) (hy : p.itemB y = true) (h : x.level < y.level) : p.ahead x.level + x.index < p.ahead y.level + y.index := by
  obtain ⟨g1, g2, g3⟩ := itemB_true hx
  obtain ⟨k1, k2, k3⟩ := itemB_true hy
  obtain ⟨g4, g5⟩ := width_level (p := p) (l := x.level) (by omega)
  obtain ⟨m, hm⟩ := Int.eq_ofNat_of_zero_le g4
  obtain ⟨n, hn⟩ := Int.eq_ofNat_of_zero_le (show 0 ≤ y.level by omega)
  have a1 := p.ahead_mono (l := m + 1) (m := n) (by omega)
  have a2 := p.ahead_succ m
  rw [Int.natCast_add, Int.natCast_one, a2, ← hn, ← hm] at a1
  omega
theorem itemAt_inj {p : PlanV} {x y : ItemV} (hx : p.itemB x = true) (hy : p.itemB y = true) : p.itemAt x = p.itemAt y ↔ x.level = y.level ∧ x.index = y.index := by
  rw [itemAt_eq hx, itemAt_eq hy]
  refine ⟨fun h => ?_, fun h => by rw [h.1, h.2]⟩
  rcases Int.lt_trichotomy x.level y.level with hl | hl | hl
  · have := ahead_lt hx hy hl; omega
  · rw [hl] at h; omega
  · have := ahead_lt hy hx hl; omega
end PlanV
end Go.Sx
