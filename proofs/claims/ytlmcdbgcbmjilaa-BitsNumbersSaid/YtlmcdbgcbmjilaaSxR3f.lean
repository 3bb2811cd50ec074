/- Part of the proof: SxR3f. -/
import Derived.Test.YtlmcdbgcbmjilaaSxIoA
import Derived.Test.YtlmcdbgcbmjilaaSxT9a
namespace Go.Proofs.Ytlmcdbgcbmjilaa
theorem f3_lifted : (Rows.bitsNumbersRow.lifted == Try.prog.liftsFinal) = true := by rw [prog_lifts]; rfl
theorem f3_make : (Try.prog.make == some Rows.bitsNumbersRow.make) = true := by rw [prog_make]; rfl
set_option maxHeartbeats 4000000 in
theorem f3_closed' : joinedFacts Try.prog 3 Try.f3 Rows.bitsNumbersSpec Rows.bitsNumbersRow = true := by
  simp only [joinedFacts, Bool.and_eq_true]
  repeat' apply And.intro
  all_goals first | (with_reducible exact prog_mayEnter) | (with_reducible exact f3_lifted) | (with_reducible exact f3_make) | (as_aux_lemma => kernel_rfl)
theorem f3_closed : joinedFacts Try.checked.prog 3 Try.f3 Rows.bitsNumbersSpec Rows.bitsNumbersRow = true := f3_closed'
end Go.Proofs.Ytlmcdbgcbmjilaa
