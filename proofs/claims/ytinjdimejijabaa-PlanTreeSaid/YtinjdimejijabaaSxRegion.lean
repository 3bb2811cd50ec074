/- Part of the proof: SxRegion. -/
import Derived.Test.YtinjdimejijabaaSxPlan
set_option linter.unusedVariables false
set_option linter.unusedSimpArgs false
namespace Go.Sx
structure ItemV where
  level : Int
  index : Int
def ItemV.cs (x : ItemV) : List Chunk := [.one (.int .i64 x.level), .one (.int .i64 x.index)]
def ItemV.Wf (x : ItemV) : Prop := I64 x.level /\ I64 x.index
structure PlaceV where
  pkind : Int
  pline : Int
  plevel : Int
  pindex : Int
  poff : Int
def PlaceV.cs (x : PlaceV) : List Chunk := [.one (.int .i64 x.pkind), .one (.int .i64 x.pline), .one (.int .i64 x.plevel), .one (.int .i64 x.pindex), .one (.int .i64 x.poff)]
structure ShapeV where
  sets : Int
  ways : Int
def ShapeV.cs (x : ShapeV) : List Chunk := [.one (.int .i64 x.sets), .one (.int .i64 x.ways)]
namespace PlanV
def ahead (p : PlanV) (l : Int) : Int := (p.widths.take l.toNat).sum
def itemsAt (p : PlanV) : Int := p.all * 40
def size (p : PlanV) : Int := if p.right = true then p.itemsAt + p.ahead p.levels * 32 else 0
theorem right_shaped {p : PlanV} (h : p.right = true) : p.shaped = true := by
  unfold right at h
  simp only [Bool.and_eq_true] at h
  exact h.1
theorem width_le (p : PlanV) (l : Int) : 0 <= p.width l /\ p.width l <= 16 := by
  unfold width
  split
  · rename_i hl
    by_cases hs : p.shaped = true
    · have W := wid hs
      by_cases h : l.toNat < p.widths.length
      · have h1 := W.least _ h
        have h2 := W.most _ h
        omega
      · rw [List.getD_eq_getElem?_getD, List.getElem?_eq_none (by omega)]; simp
    · unfold widths; rw [if_neg hs]; simp
  · omega
theorem widths_len (p : PlanV) : p.widths.length <= 5 := by
  by_cases hs : p.shaped = true
  · exact (wid hs).len5
  · unfold widths; rw [if_neg hs]; simp
end PlanV
end Go.Sx
