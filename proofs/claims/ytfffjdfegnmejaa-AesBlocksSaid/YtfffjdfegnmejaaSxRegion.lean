/- Part of the proof: SxRegion. -/
import Derived.Test.YtfffjdfegnmejaaSxPlan
set_option linter.unusedVariables false
set_option linter.unusedSimpArgs false
namespace Go.Sx
structure ItemV where
  level : Int
  index : Int
def ItemV.cs (x : ItemV) : List Chunk := [.one (.int .i64 x.level), .one (.int .i64 x.index)]
structure PlaceV where
  pkind : Int
  pline : Int
  plevel : Int
  pindex : Int
  poff : Int
def PlaceV.cs (x : PlaceV) : List Chunk := [.one (.int .i64 x.pkind), .one (.int .i64 x.pline), .one (.int .i64 x.plevel), .one (.int .i64 x.pindex), .one (.int .i64 x.poff)]
structure ShapeV where
  sets : Int
  ways : Int
def ShapeV.cs (x : ShapeV) : List Chunk := [.one (.int .i64 x.sets), .one (.int .i64 x.ways)]
namespace PlanV
def ahead (p : PlanV) (l : Int) : Int := (p.widths.take l.toNat).sum
def itemsAt (p : PlanV) : Int := p.all * 40
def size (p : PlanV) : Int := if p.right = true then p.itemsAt + p.ahead p.levels * 32 else 0
end PlanV
end Go.Sx
