/- Two parts of the proof. -/
import Derived.Test.YtggpebgigddogaaSxRowA
import Derived.Test.YtggpebgigddogaaSxLDrops
set_option linter.unusedVariables false
set_option linter.unusedSimpArgs false
namespace Go.Proofs.Ytggpebgigddogaa
theorem f8_lifted : (Rows.dramDropsRow.lifted == Try.prog.liftsFinal) = true := by rw [prog_lifts]; rfl
theorem f8_make : (Try.prog.make == some Rows.dramDropsRow.make) = true := by rw [prog_make]; rfl
set_option maxHeartbeats 4000000 in
theorem f8_closed' : joinedFacts Try.prog 8 Try.f8 Rows.dramDropsSpec Rows.dramDropsRow = true := by
  simp only [joinedFacts, Bool.and_eq_true]
  repeat' apply And.intro
  all_goals first | (with_reducible exact prog_mayEnter) | (with_reducible exact f8_lifted) | (with_reducible exact f8_make) | (as_aux_lemma => kernel_rfl)
theorem f8_closed : joinedFacts Try.checked.prog 8 Try.f8 Rows.dramDropsSpec Rows.dramDropsRow = true := f8_closed'
end Go.Proofs.Ytggpebgigddogaa

namespace Go.Proofs.Ytggpebgigddogaa
open Go.ChangeShapes Go.WideShapes Go.ChangeAt Go.RowKit Go.Sx
theorem f8_read : (Try.f8.params.toList.all fun t => Try.prog.readableRec t && decide (t < Try.prog.types.size)) = true := by kernel_rfl
theorem f8_res : Try.f8.resultTypes = #[4] := by kernel_rfl
set_option maxRecDepth 100000 in
theorem dramDrops_lifted (os : Os) (started : os.Started) (H : Type) (enc : TypeId × Value → H) :
    ReturnsInHanded {} Try.checked os 8 .any (Rows.dramDropsSpec.pre6 enc Try.prog Try.f8 Rows.dramDropsRow.domain false) (Rows.dramDropsSpec.post enc Try.prog Try.f8 false true false false) := by
  refine returnsInHanded_of_change (C := Try.checked) Try.own started (by kernel_rfl) Try.func8
    (ChangeSpec.witness6 (enc := enc) (C := Try.checked) false ⟨#[], #[.int .i64 0, .int .i64 0], []⟩ 8 (by kernel_rfl) (by kernel_rfl) (by kernel_rfl) (by kernel_rfl)) ?_
  intro W base args ds gs before hval0 hW hcnd _
  have hval : ∀ (j : Nat) t v, Try.f8.params[j]? = some t → args[j]? = some v → Value.okWide Try.prog W .any base t v := hval0
  have hW' := hW
  obtain ⟨p, q, hA0, hV, rfl, hfz, hnd⟩ := hW
  have hA : DataW.TrodAll enc Try.prog W 0 (fun _ => true) true Try.f8.params.toList args.toList ds p := hA0
  rw [Try.params8] at hA hval
  obtain ⟨v0, vs0, d0, ds0, p0, q0, hv0, rfl, rfl, h0, hr0⟩ := trodAll_cons hA
  obtain ⟨v1, vs1, d1, ds1, p1, q1, hv1, rfl, rfl, h1, hr1⟩ := trodAll_cons hr0
  obtain ⟨rfl, rfl, rfl⟩ := trodAll_nil hr1
  subst hv1
  have hargs : args = #[v0, v1] := by have := congrArg List.toArray hv0; simpa using this
  subst hargs
  clear hv0
  obtain ⟨rfl, rfl⟩ := trodVars_none hV
  obtain ⟨n0, rfl, rfl, rfl, w0⟩ := open_int Try.underlying3 (hval 0 3 v0 rfl rfl) h0
  obtain ⟨n1, rfl, rfl, rfl, w1⟩ := open_int Try.underlying3 (hval 1 3 v1 rfl rfl) h1
  have hP : PdramDrops [.int .i64 n0, .int .i64 n1] = some ((I64 n0 ∧ I64 n1), .bool true) := by kernel_rfl
  have h := Sx.sound_plain (W := W) (args := [.int .i64 n0, .int .i64 n1]) sdramDrops (Sx.pureS_mk hP ⟨Sx.wf_i64 w0, Sx.wf_i64 w1⟩ rfl) (Sx.plainL_ok (by kernel_rfl)).1
  simp only [Sx.concL, Sx.SVal.conc, Sx.concCs, Sx.Chunk.conc, List.append_nil] at h ⊢
  refine h.mono fun e W' ⟨he, hw⟩ => ?_
  subst he
  exact ⟨_, rfl, Sx.law_post hW' rfl hw Try.laidOut f8_read rfl f8_res Try.underlying4⟩
theorem f8_named : Try.checked.prog.funcNamed Rows.dramDropsRow.func = some 8 := by kernel_rfl
theorem f8_inst : Try.f8.isInstance Try.checked.prog Rows.dramDropsRow.origin Rows.dramDropsRow.targs := (of_decide_eq_true (by kernel_rfl))
theorem f8_wrap : Try.f8.isWrapper Try.checked.prog Rows.dramDropsRow.wrapper Rows.dramDropsRow.mainSum := (by unfold Func.isWrapper; first | (rw [if_pos (by decide +kernel)]; kernel_rfl) | (rw [if_neg (by decide +kernel)]; exact ⟨rfl, rfl⟩))
/-- Writes to made memory that were to be dropped are dropped, as many as were named and no more, and the others land: for any two counts. No condition. -/
theorem dramDrops_holds : Rows.DramDropsSaid :=
  OpenClaim.holds_of_wide 8 Try.f8 rfl rfl rfl rfl rfl rfl rfl ⟨rfl, rfl, rfl, rfl, rfl⟩ rfl rfl rfl rfl rfl f8_named Try.func8 f8_closed
    f8_inst f8_wrap
    (fun os started H enc _ => dramDrops_lifted os started H enc)
end Go.Proofs.Ytggpebgigddogaa
