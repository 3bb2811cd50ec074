/- The closed facts of a law's row. -/
import Derived.Test.YtlmcdbgcbmjilaaSxRowA
namespace Go.Proofs.Ytlmcdbgcbmjilaa
theorem f9_lifted : (Rows.wordPlainRow.lifted == Try.prog.liftsFinal) = true := by rw [prog_lifts]; rfl
theorem f9_make : (Try.prog.make == some Rows.wordPlainRow.make) = true := by rw [prog_make]; rfl
set_option maxHeartbeats 4000000 in
theorem f9_closed' : joinedFacts Try.prog 9 Try.f9 Rows.wordPlainSpec Rows.wordPlainRow = true := by
  simp only [joinedFacts, Bool.and_eq_true]
  repeat' apply And.intro
  all_goals first | (with_reducible exact prog_mayEnter) | (with_reducible exact f9_lifted) | (with_reducible exact f9_make) | (as_aux_lemma => kernel_rfl)
theorem f9_closed : joinedFacts Try.checked.prog 9 Try.f9 Rows.wordPlainSpec Rows.wordPlainRow = true := f9_closed'
end Go.Proofs.Ytlmcdbgcbmjilaa
