/- The closed facts of a law's row. -/
import Derived.Test.YtlmcdbgcbmjilaaSxRowA
namespace Go.Proofs.Ytlmcdbgcbmjilaa
theorem f20_lifted : (Rows.regionAllRow.lifted == Try.prog.liftsFinal) = true := by rw [prog_lifts]; rfl
theorem f20_make : (Try.prog.make == some Rows.regionAllRow.make) = true := by rw [prog_make]; rfl
set_option maxHeartbeats 4000000 in
theorem f20_closed' : joinedFacts Try.prog 20 Try.f20 Rows.regionAllSpec Rows.regionAllRow = true := by
  simp only [joinedFacts, Bool.and_eq_true]
  repeat' apply And.intro
  all_goals first | (with_reducible exact prog_mayEnter) | (with_reducible exact f20_lifted) | (with_reducible exact f20_make) | (as_aux_lemma => kernel_rfl)
theorem f20_closed : joinedFacts Try.checked.prog 20 Try.f20 Rows.regionAllSpec Rows.regionAllRow = true := f20_closed'
end Go.Proofs.Ytlmcdbgcbmjilaa
