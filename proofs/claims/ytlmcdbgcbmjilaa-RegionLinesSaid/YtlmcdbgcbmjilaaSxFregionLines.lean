/- The closed facts of a law's row. -/
import Derived.Test.YtlmcdbgcbmjilaaSxRowA
namespace Go.Proofs.Ytlmcdbgcbmjilaa
theorem f18_lifted : (Rows.regionLinesRow.lifted == Try.prog.liftsFinal) = true := by rw [prog_lifts]; rfl
theorem f18_make : (Try.prog.make == some Rows.regionLinesRow.make) = true := by rw [prog_make]; rfl
set_option maxHeartbeats 4000000 in
theorem f18_closed' : joinedFacts Try.prog 18 Try.f18 Rows.regionLinesSpec Rows.regionLinesRow = true := by
  simp only [joinedFacts, Bool.and_eq_true]
  repeat' apply And.intro
  all_goals first | (with_reducible exact prog_mayEnter) | (with_reducible exact f18_lifted) | (with_reducible exact f18_make) | (as_aux_lemma => kernel_rfl)
theorem f18_closed : joinedFacts Try.checked.prog 18 Try.f18 Rows.regionLinesSpec Rows.regionLinesRow = true := f18_closed'
end Go.Proofs.Ytlmcdbgcbmjilaa
