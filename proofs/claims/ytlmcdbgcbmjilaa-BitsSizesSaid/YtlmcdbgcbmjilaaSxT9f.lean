/- Part of the proof: SxT9f. -/
import Derived.Test.YtlmcdbgcbmjilaaSxIoA
import Derived.Test.YtlmcdbgcbmjilaaSxT9a
namespace Go.Proofs.Ytlmcdbgcbmjilaa
theorem bs_lifted : (Rows.bitsSizesRow.lifted == Try.prog.liftsFinal) = true := by rw [prog_lifts]; rfl
theorem bs_make : (Try.prog.make == some Rows.bitsSizesRow.make) = true := by rw [prog_make]; rfl
set_option maxHeartbeats 4000000 in
theorem f4_closed' : joinedFacts Try.prog 4 Try.f4 Rows.bitsSizesSpec Rows.bitsSizesRow = true := by
  simp only [joinedFacts, Bool.and_eq_true]
  repeat' apply And.intro
  all_goals first | (with_reducible exact prog_mayEnter) | (with_reducible exact bs_lifted) | (with_reducible exact bs_make) | (as_aux_lemma => kernel_rfl)
theorem f4_closed : joinedFacts Try.checked.prog 4 Try.f4 Rows.bitsSizesSpec Rows.bitsSizesRow = true := f4_closed'
end Go.Proofs.Ytlmcdbgcbmjilaa
