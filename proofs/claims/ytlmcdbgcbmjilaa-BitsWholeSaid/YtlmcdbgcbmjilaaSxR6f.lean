/- Part of the proof: SxR6f. -/
import Derived.Test.YtlmcdbgcbmjilaaSxIoA
import Derived.Test.YtlmcdbgcbmjilaaSxT9a
namespace Go.Proofs.Ytlmcdbgcbmjilaa
theorem f6_lifted : (Rows.bitsWholeRow.lifted == Try.prog.liftsFinal) = true := by rw [prog_lifts]; rfl
theorem f6_make : (Try.prog.make == some Rows.bitsWholeRow.make) = true := by rw [prog_make]; rfl
set_option maxHeartbeats 4000000 in
theorem f6_closed' : joinedFacts Try.prog 6 Try.f6 Rows.bitsWholeSpec Rows.bitsWholeRow = true := by
  simp only [joinedFacts, Bool.and_eq_true]
  repeat' apply And.intro
  all_goals first | (with_reducible exact prog_mayEnter) | (with_reducible exact f6_lifted) | (with_reducible exact f6_make) | (as_aux_lemma => kernel_rfl)
theorem f6_closed : joinedFacts Try.checked.prog 6 Try.f6 Rows.bitsWholeSpec Rows.bitsWholeRow = true := f6_closed'
end Go.Proofs.Ytlmcdbgcbmjilaa
