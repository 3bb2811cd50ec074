/- The kinds of the cells of plans and lines, in this program. -/
import Derived.Test.YtlmcdbgcbmjilaaSxT9a
import Derived.Test.YtlmcdbgcbmjilaaSxPlanRow
namespace Go.Proofs.Ytlmcdbgcbmjilaa
theorem kinds_plan : Sx.kindsOf Try.prog 6 40 = some Sx.planKinds := by kernel_rfl
theorem cells_plan : Sx.planKinds.length = Try.prog.cellsOf 40 := by kernel_rfl
theorem key_plan : Try.prog.keyTypeAt 8 40 = true := by kernel_rfl
theorem agg_plan : Sx.aggT Try.prog 40 = true := by kernel_rfl
theorem kinds_line : Sx.kindsOf Try.prog 6 49 = some (List.replicate 32 (some .u8)) := by kernel_rfl
theorem cells_line : (List.replicate 32 (some IntKind.u8)).length = Try.prog.cellsOf 49 := by kernel_rfl
theorem key_line : Try.prog.keyTypeAt 8 49 = true := by kernel_rfl
theorem agg_line : Sx.aggT Try.prog 49 = true := by kernel_rfl
end Go.Proofs.Ytlmcdbgcbmjilaa
