/- The closed facts of a law's row. -/
import Derived.Test.YtlmcdbgcbmjilaaSxRowA
namespace Go.Proofs.Ytlmcdbgcbmjilaa
theorem f15_lifted : (Rows.regionPagesRow.lifted == Try.prog.liftsFinal) = true := by rw [prog_lifts]; rfl
theorem f15_make : (Try.prog.make == some Rows.regionPagesRow.make) = true := by rw [prog_make]; rfl
set_option maxHeartbeats 4000000 in
theorem f15_closed' : joinedFacts Try.prog 15 Try.f15 Rows.regionPagesSpec Rows.regionPagesRow = true := by
  simp only [joinedFacts, Bool.and_eq_true]
  repeat' apply And.intro
  all_goals first | (with_reducible exact prog_mayEnter) | (with_reducible exact f15_lifted) | (with_reducible exact f15_make) | (as_aux_lemma => kernel_rfl)
theorem f15_closed : joinedFacts Try.checked.prog 15 Try.f15 Rows.regionPagesSpec Rows.regionPagesRow = true := f15_closed'
end Go.Proofs.Ytlmcdbgcbmjilaa
