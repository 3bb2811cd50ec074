/- Part of the proof: SxR7f. -/
import Derived.Test.YtlmcdbgcbmjilaaSxIoA
import Derived.Test.YtlmcdbgcbmjilaaSxT9a
namespace Go.Proofs.Ytlmcdbgcbmjilaa
theorem f7_lifted : (Rows.planChecksRow.lifted == Try.prog.liftsFinal) = true := by rw [prog_lifts]; rfl
theorem f7_make : (Try.prog.make == some Rows.planChecksRow.make) = true := by rw [prog_make]; rfl
set_option maxHeartbeats 4000000 in
theorem f7_closed' : joinedFacts Try.prog 7 Try.f7 Rows.planChecksSpec Rows.planChecksRow = true := by
  simp only [joinedFacts, Bool.and_eq_true]
  repeat' apply And.intro
  all_goals first | (with_reducible exact prog_mayEnter) | (with_reducible exact f7_lifted) | (with_reducible exact f7_make) | (as_aux_lemma => kernel_rfl)
theorem f7_closed : joinedFacts Try.checked.prog 7 Try.f7 Rows.planChecksSpec Rows.planChecksRow = true := f7_closed'
end Go.Proofs.Ytlmcdbgcbmjilaa
