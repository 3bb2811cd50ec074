/- Part of the proof: SxFitV. -/
import Derived.Test.YtfffjdfegnmejaaSxRegion
set_option linter.unusedVariables false
set_option linter.unusedSimpArgs false
namespace Go.Sx
structure SpanV where
  lo : Int
  hi : Int
def SpanV.cs (x : SpanV) : List Chunk := [.one (.int .i64 x.lo), .one (.int .i64 x.hi)]
def SpanV.ok (x : SpanV) : Prop := 0 <= x.lo /\ x.lo <= x.hi /\ x.hi <= 100
end Go.Sx
