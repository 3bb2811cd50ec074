/- Two parts of the proof. -/
import Derived.Test.YtggpebgigddogaaSxRowA
import Derived.Test.YtggpebgigddogaaSxLUse
set_option linter.unusedVariables false
set_option linter.unusedSimpArgs false
namespace Go.Proofs.Ytggpebgigddogaa
theorem f6_lifted : (Rows.dramUseRow.lifted == Try.prog.liftsFinal) = true := by rw [prog_lifts]; rfl
theorem f6_make : (Try.prog.make == some Rows.dramUseRow.make) = true := by rw [prog_make]; rfl
set_option maxHeartbeats 4000000 in
theorem f6_closed' : joinedFacts Try.prog 6 Try.f6 Rows.dramUseSpec Rows.dramUseRow = true := by
  simp only [joinedFacts, Bool.and_eq_true]
  repeat' apply And.intro
  all_goals first | (with_reducible exact prog_mayEnter) | (with_reducible exact f6_lifted) | (with_reducible exact f6_make) | (as_aux_lemma => kernel_rfl)
theorem f6_closed : joinedFacts Try.checked.prog 6 Try.f6 Rows.dramUseSpec Rows.dramUseRow = true := f6_closed'
end Go.Proofs.Ytggpebgigddogaa

namespace Go.Proofs.Ytggpebgigddogaa
open Go.ChangeShapes Go.WideShapes Go.ChangeAt Go.RowKit Go.Sx
theorem f6_read : (Try.f6.params.toList.all fun t => Try.prog.readableRec t && decide (t < Try.prog.types.size)) = true := by kernel_rfl
theorem f6_res : Try.f6.resultTypes = #[4] := by kernel_rfl
set_option maxRecDepth 100000 in
theorem dramUse_lifted (os : Os) (started : os.Started) (H : Type) (enc : TypeId × Value → H) :
    ReturnsInHanded {} Try.checked os 6 .any (Rows.dramUseSpec.pre6 enc Try.prog Try.f6 Rows.dramUseRow.domain false) (Rows.dramUseSpec.post enc Try.prog Try.f6 false true false false) := by
  refine returnsInHanded_of_change (C := Try.checked) Try.own started (by kernel_rfl) Try.func6
    (ChangeSpec.witness6 (enc := enc) (C := Try.checked) false ⟨#[], #[.int .i64 0, .int .i64 0, .int .i64 0, .bool false], []⟩ 8 (by kernel_rfl) (by kernel_rfl) (by kernel_rfl) (by kernel_rfl)) ?_
  intro W base args ds gs before hval0 hW hcnd _
  have hval : ∀ (j : Nat) t v, Try.f6.params[j]? = some t → args[j]? = some v → Value.okWide Try.prog W .any base t v := hval0
  have hW' := hW
  obtain ⟨p, q, hA0, hV, rfl, hfz, hnd⟩ := hW
  have hA : DataW.TrodAll enc Try.prog W 0 (fun _ => true) true Try.f6.params.toList args.toList ds p := hA0
  rw [Try.params6] at hA hval
  obtain ⟨v0, vs0, d0, ds0, p0, q0, hv0, rfl, rfl, h0, hr0⟩ := trodAll_cons hA
  obtain ⟨v1, vs1, d1, ds1, p1, q1, hv1, rfl, rfl, h1, hr1⟩ := trodAll_cons hr0
  obtain ⟨v2, vs2, d2, ds2, p2, q2, hv2, rfl, rfl, h2, hr2⟩ := trodAll_cons hr1
  obtain ⟨v3, vs3, d3, ds3, p3, q3, hv3, rfl, rfl, h3, hr3⟩ := trodAll_cons hr2
  obtain ⟨rfl, rfl, rfl⟩ := trodAll_nil hr3
  subst hv1
  subst hv2
  subst hv3
  have hargs : args = #[v0, v1, v2, v3] := by have := congrArg List.toArray hv0; simpa using this
  subst hargs
  clear hv0
  obtain ⟨rfl, rfl⟩ := trodVars_none hV
  obtain ⟨n0, rfl, rfl, rfl, w0⟩ := open_int Try.underlying3 (hval 0 3 v0 rfl rfl) h0
  obtain ⟨n1, rfl, rfl, rfl, w1⟩ := open_int Try.underlying3 (hval 1 3 v1 rfl rfl) h1
  obtain ⟨n2, rfl, rfl, rfl, w2⟩ := open_int Try.underlying3 (hval 2 3 v2 rfl rfl) h2
  obtain ⟨n3, rfl, rfl, rfl⟩ := open_bool Try.underlying4 (hval 3 4 v3 rfl rfl) h3
  have hP : PdramUse [.int .i64 n0, .int .i64 n1, .int .i64 n2, .bool n3] = some ((I64 n0 ∧ I64 n1 ∧ I64 n2), .bool true) := by kernel_rfl
  have h := Sx.sound_plain (W := W) (args := [.int .i64 n0, .int .i64 n1, .int .i64 n2, .bool n3]) sdramUse (Sx.pureS_mk hP ⟨Sx.wf_i64 w0, Sx.wf_i64 w1, Sx.wf_i64 w2⟩ rfl) (Sx.plainL_ok (by kernel_rfl)).1
  simp only [Sx.concL, Sx.SVal.conc, Sx.concCs, Sx.Chunk.conc, List.append_nil] at h ⊢
  refine h.mono fun e W' ⟨he, hw⟩ => ?_
  subst he
  exact ⟨_, rfl, Sx.law_post hW' rfl hw Try.laidOut f6_read rfl f6_res Try.underlying4⟩
theorem f6_named : Try.checked.prog.funcNamed Rows.dramUseRow.func = some 6 := by kernel_rfl
theorem f6_inst : Try.f6.isInstance Try.checked.prog Rows.dramUseRow.origin Rows.dramUseRow.targs := (of_decide_eq_true (by kernel_rfl))
theorem f6_wrap : Try.f6.isWrapper Try.checked.prog Rows.dramUseRow.wrapper Rows.dramUseRow.mainSum := (by unfold Func.isWrapper; first | (rw [if_pos (by decide +kernel)]; kernel_rfl) | (rw [if_neg (by decide +kernel)]; exact ⟨rfl, rfl⟩))
/-- Made memory counts each read and write that it does and the rows that it opens for them, opens none twice for one row that is still open, and counts nothing that fails: for any size, place, count and kind. No condition. -/
theorem dramUse_holds : Rows.DramUseSaid :=
  OpenClaim.holds_of_wide 6 Try.f6 rfl rfl rfl rfl rfl rfl rfl ⟨rfl, rfl, rfl, rfl, rfl⟩ rfl rfl rfl rfl rfl f6_named Try.func6 f6_closed
    f6_inst f6_wrap
    (fun os started H enc _ => dramUse_lifted os started H enc)
end Go.Proofs.Ytggpebgigddogaa
