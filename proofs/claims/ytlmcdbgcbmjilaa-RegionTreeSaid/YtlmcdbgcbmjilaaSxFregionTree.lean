/- The closed facts of a law's row. -/
import Derived.Test.YtlmcdbgcbmjilaaSxRowA
namespace Go.Proofs.Ytlmcdbgcbmjilaa
theorem f14_lifted : (Rows.regionTreeRow.lifted == Try.prog.liftsFinal) = true := by rw [prog_lifts]; rfl
theorem f14_make : (Try.prog.make == some Rows.regionTreeRow.make) = true := by rw [prog_make]; rfl
set_option maxHeartbeats 4000000 in
theorem f14_closed' : joinedFacts Try.prog 14 Try.f14 Rows.regionTreeSpec Rows.regionTreeRow = true := by
  simp only [joinedFacts, Bool.and_eq_true]
  repeat' apply And.intro
  all_goals first | (with_reducible exact prog_mayEnter) | (with_reducible exact f14_lifted) | (with_reducible exact f14_make) | (as_aux_lemma => kernel_rfl)
theorem f14_closed : joinedFacts Try.checked.prog 14 Try.f14 Rows.regionTreeSpec Rows.regionTreeRow = true := f14_closed'
end Go.Proofs.Ytlmcdbgcbmjilaa
