/- Part of the proof: SxRegion. -/
import Derived.Test.YtinjdimejijabaaSxPlan
set_option linter.unusedVariables false
set_option linter.unusedSimpArgs false
namespace Go.Sx
structure ItemV where
  level : Int
  index : Int
def ItemV.cs (x : ItemV) : List Chunk := [.one (.int .i64 x.level), .one (.int .i64 x.index)]
def ItemV.Wf (x : ItemV) : Prop := I64 x.level /\ I64 x.index
structure PlaceV where
  pkind : Int
  pline : Int
  plevel : Int
  pindex : Int
  poff : Int
def PlaceV.cs (x : PlaceV) : List Chunk := [.one (.int .i64 x.pkind), .one (.int .i64 x.pline), .one (.int .i64 x.plevel), .one (.int .i64 x.pindex), .one (.int .i64 x.poff)]
structure ShapeV where
  sets : Int
  ways : Int
def ShapeV.cs (x : ShapeV) : List Chunk := [.one (.int .i64 x.sets), .one (.int .i64 x.ways)]
namespace PlanV
def ahead (p : PlanV) (l : Int) : Int := (p.widths.take l.toNat).sum
def tags (p : PlanV) : Int := p.all * 32
def itemsAt (p : PlanV) : Int := p.all * 40
def size (p : PlanV) : Int := if p.right = true then p.itemsAt + p.ahead p.levels * 32 else 0
theorem ZwM {p : PlanV} (h : p.shaped = true) : 1 <= p.all /\ p.all <= 128 /\ p.all = p.pages * p.lines := by
  have hs := of_decide_eq_true h
  have e : p.all = p.pages * p.lines := if_pos h
  have h1 : p.pages * p.lines <= 16 * p.lines := Int.mul_le_mul_of_nonneg_right (by omega) (by omega)
  have h2 : 1 * p.lines <= p.pages * p.lines := Int.mul_le_mul_of_nonneg_right (by omega) (by omega)
  omega
theorem all_le (p : PlanV) : 0 <= p.all /\ p.all <= 128 := by
  by_cases h : p.shaped = true
  · have := ZwM h; omega
  · unfold all; rw [if_neg h]; omega
theorem ZoL (p : PlanV) : p.widths.length <= 5 := by
  by_cases hs : p.shaped = true
  · exact (wid hs).len5
  · unfold widths; rw [if_neg hs]; simp
end PlanV
end Go.Sx
