/- The closed facts of a law's row. -/
import Derived.Test.YtlmcdbgcbmjilaaSxRowA
namespace Go.Proofs.Ytlmcdbgcbmjilaa
theorem f8_lifted : (Rows.wordDoesRow.lifted == Try.prog.liftsFinal) = true := by rw [prog_lifts]; rfl
theorem f8_make : (Try.prog.make == some Rows.wordDoesRow.make) = true := by rw [prog_make]; rfl
set_option maxHeartbeats 4000000 in
theorem f8_closed' : joinedFacts Try.prog 8 Try.f8 Rows.wordDoesSpec Rows.wordDoesRow = true := by
  simp only [joinedFacts, Bool.and_eq_true]
  repeat' apply And.intro
  all_goals first | (with_reducible exact prog_mayEnter) | (with_reducible exact f8_lifted) | (with_reducible exact f8_make) | (as_aux_lemma => kernel_rfl)
theorem f8_closed : joinedFacts Try.checked.prog 8 Try.f8 Rows.wordDoesSpec Rows.wordDoesRow = true := f8_closed'
end Go.Proofs.Ytlmcdbgcbmjilaa
