/- Two parts of the proof. -/
import Derived.Test.YtinjdimejijabaaRows
import Derived.ProofKit
import Derived.Test.YtinjdimejijabaaSxPlan
import Derived.Test.YtinjdimejijabaaSxRow
import Derived.Test.YtinjdimejijabaaSxRegion
import Derived.Test.YtinjdimejijabaaSxOpW
set_option linter.unusedVariables false
set_option linter.unusedSimpArgs false
namespace Go.Proofs.Ytinjdimejijabaa
theorem Zp2 : Try.prog.make = some .cut := by kernel_rfl
theorem ZoA : Try.prog.liftsFinal = false := by kernel_rfl
theorem Zi8 : Try.prog.mayEnter = true := by kernel_rfl
end Go.Proofs.Ytinjdimejijabaa

namespace Go.Sx
theorem Zm5 {n : Int} (h : (Lit.int .i64 n).wf = true) : I64 n := by
  simp only [Lit.wf, Bool.and_eq_true, decide_eq_true_eq, IntKind.min, IntKind.max, IntKind.signed, IntKind.bits] at h
  unfold I64; simp at h; omega
end Go.Sx

namespace Go.Proofs.Ytinjdimejijabaa
theorem Try.own : ownKnob Try.prog.godebug = none := by kernel_rfl
theorem Try.laidOut : laidOutB Try.prog = true := by kernel_rfl
end Go.Proofs.Ytinjdimejijabaa
