/- The closed facts of a law's row. -/
import Derived.Test.YtlmcdbgcbmjilaaSxRowA
namespace Go.Proofs.Ytlmcdbgcbmjilaa
theorem f12_lifted : (Rows.planFitsRow.lifted == Try.prog.liftsFinal) = true := by rw [prog_lifts]; rfl
theorem f12_make : (Try.prog.make == some Rows.planFitsRow.make) = true := by rw [prog_make]; rfl
set_option maxHeartbeats 4000000 in
theorem f12_closed' : joinedFacts Try.prog 12 Try.f12 Rows.planFitsSpec Rows.planFitsRow = true := by
  simp only [joinedFacts, Bool.and_eq_true]
  repeat' apply And.intro
  all_goals first | (with_reducible exact prog_mayEnter) | (with_reducible exact f12_lifted) | (with_reducible exact f12_make) | (as_aux_lemma => kernel_rfl)
theorem f12_closed : joinedFacts Try.checked.prog 12 Try.f12 Rows.planFitsSpec Rows.planFitsRow = true := f12_closed'
end Go.Proofs.Ytlmcdbgcbmjilaa
