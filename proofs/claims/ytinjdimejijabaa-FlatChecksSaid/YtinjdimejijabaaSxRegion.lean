/- Part of the proof: SxRegion. -/
import Derived.Test.YtinjdimejijabaaSxPlan
set_option linter.unusedVariables false
set_option linter.unusedSimpArgs false
namespace Go.Sx
structure ItemV where
  level : Int
  index : Int
def ItemV.cs (x : ItemV) : List Chunk := [.one (.int .i64 x.level), .one (.int .i64 x.index)]
def ItemV.Wf (x : ItemV) : Prop := I64 x.level /\ I64 x.index
structure PlaceV where
  pkind : Int
  pline : Int
  plevel : Int
  pindex : Int
  poff : Int
def PlaceV.cs (x : PlaceV) : List Chunk := [.one (.int .i64 x.pkind), .one (.int .i64 x.pline), .one (.int .i64 x.plevel), .one (.int .i64 x.pindex), .one (.int .i64 x.poff)]
structure ShapeV where
  sets : Int
  ways : Int
def ShapeV.cs (x : ShapeV) : List Chunk := [.one (.int .i64 x.sets), .one (.int .i64 x.ways)]
namespace PlanV
def itemB (p : PlanV) (x : ItemV) : Bool := p.right && decide (0 <= x.index) && decide (x.index < p.width x.level)
def ahead (p : PlanV) (l : Int) : Int := (p.widths.take l.toNat).sum
def tags (p : PlanV) : Int := p.all * 32
def itemsAt (p : PlanV) : Int := p.all * 40
def size (p : PlanV) : Int := if p.right = true then p.itemsAt + p.ahead p.levels * 32 else 0
def itemAt (p : PlanV) (x : ItemV) : Int := if p.itemB x = true then p.itemsAt + (p.ahead x.level + x.index) * 32 else 0
theorem Zl8 {p : PlanV} {x : ItemV} (h : p.itemB x = true) : p.right = true /\ 0 <= x.index /\ x.index < p.width x.level := by
  simp only [itemB, Bool.and_eq_true, decide_eq_true_eq] at h
  exact ⟨h.1.1, h.1.2, h.2⟩
theorem right_shaped {p : PlanV} (h : p.right = true) : p.shaped = true := by
  unfold right at h
  simp only [Bool.and_eq_true] at h
  exact h.1
theorem all_le' {p : PlanV} (h : p.shaped = true) : 1 <= p.all /\ p.all <= 128 /\ p.all = p.pages * p.lines := by
  have hs := of_decide_eq_true h
  have e : p.all = p.pages * p.lines := if_pos h
  have h1 : p.pages * p.lines <= 16 * p.lines := Int.mul_le_mul_of_nonneg_right (by omega) (by omega)
  have h2 : 1 * p.lines <= p.pages * p.lines := Int.mul_le_mul_of_nonneg_right (by omega) (by omega)
  omega
theorem all_le (p : PlanV) : 0 <= p.all /\ p.all <= 128 := by
  by_cases h : p.shaped = true
  · have := all_le' h; omega
  · unfold all; rw [if_neg h]; omega
theorem width_le (p : PlanV) (l : Int) : 0 <= p.width l /\ p.width l <= 16 := by
  unfold width
  split
  · rename_i hl
    by_cases hs : p.shaped = true
    · have W := wid hs
      by_cases h : l.toNat < p.widths.length
      · have h1 := W.least _ h
        have h2 := W.most _ h
        omega
      · rw [List.getD_eq_getElem?_getD, List.getElem?_eq_none (by omega)]; simp
    · unfold widths; rw [if_neg hs]; simp
  · omega
theorem Zur (p : PlanV) : p.widths.length <= 5 := by
  by_cases hs : p.shaped = true
  · exact (wid hs).len5
  · unfold widths; rw [if_neg hs]; simp
theorem Zp9 {p : PlanV} {l : Int} (h : 0 < p.width l) : 0 <= l /\ l < p.levels := by
  unfold width at h
  split at h
  · rename_i hl
    refine ⟨hl, ?_⟩
    unfold levels
    by_cases hh : l.toNat < p.widths.length
    · omega
    · rw [List.getD_eq_getElem?_getD, List.getElem?_eq_none (by omega)] at h; simp at h
  · omega
theorem ahead_succ (p : PlanV) (l : Nat) : p.ahead ((l : Int) + 1) = p.ahead l + p.width l := by
  unfold ahead width
  rw [if_pos (by omega), show ((l : Int) + 1).toNat = l + 1 by omega, Int.toNat_natCast]
  by_cases h : l < p.widths.length
  · rw [List.take_succ_eq_append_getElem h, List.sum_append, List.getD_eq_getElem?_getD, List.getElem?_eq_getElem h]; simp
  · rw [List.take_of_length_le (by omega), List.take_of_length_le (by omega), List.getD_eq_getElem?_getD, List.getElem?_eq_none (by omega)]; simp
theorem ahead_zero (p : PlanV) : p.ahead 0 = 0 := by simp [ahead]
theorem ahead_le (p : PlanV) : ∀ l : Nat, 0 <= p.ahead l /\ p.ahead l <= 16 * l
  | 0 => by simp [ahead]
  | l + 1 => by
    have h1 := ahead_le p l
    have h2 := p.width_le l
    have h3 := p.ahead_succ l
    rw [Int.natCast_add, Int.natCast_one, h3]
    omega
theorem ahead_mono (p : PlanV) {l : Nat} : ∀ {m : Nat}, l <= m -> p.ahead l <= p.ahead m
  | 0, h => by have : l = 0 := by omega
               subst this; exact Int.le_refl _
  | m + 1, h => by
    rcases Nat.lt_or_ge m l with h' | h'
    · have : l = m + 1 := by omega
      subst this; exact Int.le_refl _
    · have h1 := ahead_mono p (l := l) (m := m) h'
      have h2 := p.width_le m
      have h3 := p.ahead_succ m
      rw [Int.natCast_add, Int.natCast_one, h3]
      omega
end PlanV
end Go.Sx
