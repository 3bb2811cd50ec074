/- The closed facts of a law's row. -/
import Derived.Test.YtlmcdbgcbmjilaaSxRowA
namespace Go.Proofs.Ytlmcdbgcbmjilaa
theorem f13_lifted : (Rows.planRoomRow.lifted == Try.prog.liftsFinal) = true := by rw [prog_lifts]; rfl
theorem f13_make : (Try.prog.make == some Rows.planRoomRow.make) = true := by rw [prog_make]; rfl
set_option maxHeartbeats 4000000 in
theorem f13_closed' : joinedFacts Try.prog 13 Try.f13 Rows.planRoomSpec Rows.planRoomRow = true := by
  simp only [joinedFacts, Bool.and_eq_true]
  repeat' apply And.intro
  all_goals first | (with_reducible exact prog_mayEnter) | (with_reducible exact f13_lifted) | (with_reducible exact f13_make) | (as_aux_lemma => kernel_rfl)
theorem f13_closed : joinedFacts Try.checked.prog 13 Try.f13 Rows.planRoomSpec Rows.planRoomRow = true := f13_closed'
end Go.Proofs.Ytlmcdbgcbmjilaa
