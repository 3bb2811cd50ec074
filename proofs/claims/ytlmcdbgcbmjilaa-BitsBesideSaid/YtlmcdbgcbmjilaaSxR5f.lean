/- Part of the proof: SxR5f. -/
import Derived.Test.YtlmcdbgcbmjilaaSxIoA
import Derived.Test.YtlmcdbgcbmjilaaSxT9a
namespace Go.Proofs.Ytlmcdbgcbmjilaa
theorem f5_lifted : (Rows.bitsBesideRow.lifted == Try.prog.liftsFinal) = true := by rw [prog_lifts]; rfl
theorem f5_make : (Try.prog.make == some Rows.bitsBesideRow.make) = true := by rw [prog_make]; rfl
set_option maxHeartbeats 4000000 in
theorem f5_closed' : joinedFacts Try.prog 5 Try.f5 Rows.bitsBesideSpec Rows.bitsBesideRow = true := by
  simp only [joinedFacts, Bool.and_eq_true]
  repeat' apply And.intro
  all_goals first | (with_reducible exact prog_mayEnter) | (with_reducible exact f5_lifted) | (with_reducible exact f5_make) | (as_aux_lemma => kernel_rfl)
theorem f5_closed : joinedFacts Try.checked.prog 5 Try.f5 Rows.bitsBesideSpec Rows.bitsBesideRow = true := f5_closed'
end Go.Proofs.Ytlmcdbgcbmjilaa
