/- The closed facts of a law's row. -/
import Derived.Test.YtlmcdbgcbmjilaaSxRowA
namespace Go.Proofs.Ytlmcdbgcbmjilaa
theorem f10_lifted : (Rows.wordApartRow.lifted == Try.prog.liftsFinal) = true := by rw [prog_lifts]; rfl
theorem f10_make : (Try.prog.make == some Rows.wordApartRow.make) = true := by rw [prog_make]; rfl
set_option maxHeartbeats 4000000 in
theorem f10_closed' : joinedFacts Try.prog 10 Try.f10 Rows.wordApartSpec Rows.wordApartRow = true := by
  simp only [joinedFacts, Bool.and_eq_true]
  repeat' apply And.intro
  all_goals first | (with_reducible exact prog_mayEnter) | (with_reducible exact f10_lifted) | (with_reducible exact f10_make) | (as_aux_lemma => kernel_rfl)
theorem f10_closed : joinedFacts Try.checked.prog 10 Try.f10 Rows.wordApartSpec Rows.wordApartRow = true := f10_closed'
end Go.Proofs.Ytlmcdbgcbmjilaa
