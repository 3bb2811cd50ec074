/- The closed facts of a law's row. -/
import Derived.Test.YtlmcdbgcbmjilaaSxRowA
namespace Go.Proofs.Ytlmcdbgcbmjilaa
theorem f19_lifted : (Rows.regionPlacesRow.lifted == Try.prog.liftsFinal) = true := by rw [prog_lifts]; rfl
theorem f19_make : (Try.prog.make == some Rows.regionPlacesRow.make) = true := by rw [prog_make]; rfl
set_option maxHeartbeats 4000000 in
theorem f19_closed' : joinedFacts Try.prog 19 Try.f19 Rows.regionPlacesSpec Rows.regionPlacesRow = true := by
  simp only [joinedFacts, Bool.and_eq_true]
  repeat' apply And.intro
  all_goals first | (with_reducible exact prog_mayEnter) | (with_reducible exact f19_lifted) | (with_reducible exact f19_make) | (as_aux_lemma => kernel_rfl)
theorem f19_closed : joinedFacts Try.checked.prog 19 Try.f19 Rows.regionPlacesSpec Rows.regionPlacesRow = true := f19_closed'
end Go.Proofs.Ytlmcdbgcbmjilaa
