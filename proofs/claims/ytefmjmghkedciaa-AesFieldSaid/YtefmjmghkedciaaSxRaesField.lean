/- Two parts of the proof. -/
import Derived.Test.YtefmjmghkedciaaSxRowA
import Derived.Test.YtefmjmghkedciaaSxLField
set_option linter.unusedVariables false
set_option linter.unusedSimpArgs false
namespace Go.Proofs.Ytefmjmghkedciaa
theorem f6_lifted : (Rows.aesFieldRow.lifted == Try.prog.liftsFinal) = true := by rw [prog_lifts]; rfl
theorem f6_make : (Try.prog.make == some Rows.aesFieldRow.make) = true := by rw [prog_make]; rfl
set_option maxHeartbeats 4000000 in
theorem f6_closed' : joinedFacts Try.prog 6 Try.f6 Rows.aesFieldSpec Rows.aesFieldRow = true := by
  simp only [joinedFacts, Bool.and_eq_true]
  repeat' apply And.intro
  all_goals first | (with_reducible exact prog_mayEnter) | (with_reducible exact f6_lifted) | (with_reducible exact f6_make) | (as_aux_lemma => kernel_rfl)
theorem f6_closed : joinedFacts Try.checked.prog 6 Try.f6 Rows.aesFieldSpec Rows.aesFieldRow = true := f6_closed'
end Go.Proofs.Ytefmjmghkedciaa

namespace Go.Proofs.Ytefmjmghkedciaa
open Go.ChangeShapes Go.WideShapes Go.ChangeAt Go.RowKit Go.Sx
theorem f6_read : (Try.f6.params.toList.all fun t => Try.prog.readableRec t && decide (t < Try.prog.types.size)) = true := by kernel_rfl
theorem f6_res : Try.f6.resultTypes = #[4] := by kernel_rfl
set_option maxRecDepth 100000 in
theorem aesField_lifted (os : Os) (started : os.Started) (H : Type) (enc : TypeId × Value → H) :
    ReturnsInHanded {} Try.checked os 6 .any (Rows.aesFieldSpec.pre6 enc Try.prog Try.f6 Rows.aesFieldRow.domain false) (Rows.aesFieldSpec.post enc Try.prog Try.f6 false true false false) := by
  refine returnsInHanded_of_change (C := Try.checked) Try.own started (by kernel_rfl) Try.func6
    (ChangeSpec.witness6 (enc := enc) (C := Try.checked) false ⟨#[], #[.int .u8 0, .int .u8 0, .int .u8 0], []⟩ 8 (by kernel_rfl) (by kernel_rfl) (by kernel_rfl) (by kernel_rfl)) ?_
  intro W base args ds gs before hval0 hW hcnd _
  have hval : ∀ (j : Nat) t v, Try.f6.params[j]? = some t → args[j]? = some v → Value.okWide Try.prog W .any base t v := hval0
  have hW' := hW
  obtain ⟨p, q, hA0, hV, rfl, hfz, hnd⟩ := hW
  have hA : DataW.TrodAll enc Try.prog W 0 (fun _ => true) true Try.f6.params.toList args.toList ds p := hA0
  rw [Try.params6] at hA hval
  obtain ⟨v0, vs0, d0, ds0, p0, q0, hv0, rfl, rfl, h0, hr0⟩ := trodAll_cons hA
  obtain ⟨v1, vs1, d1, ds1, p1, q1, hv1, rfl, rfl, h1, hr1⟩ := trodAll_cons hr0
  obtain ⟨v2, vs2, d2, ds2, p2, q2, hv2, rfl, rfl, h2, hr2⟩ := trodAll_cons hr1
  obtain ⟨rfl, rfl, rfl⟩ := trodAll_nil hr2
  subst hv1
  subst hv2
  have hargs : args = #[v0, v1, v2] := by have := congrArg List.toArray hv0; simpa using this
  subst hargs
  clear hv0
  obtain ⟨rfl, rfl⟩ := trodVars_none hV
  obtain ⟨n0, rfl, rfl, rfl, w0⟩ := open_int Try.underlying5 (hval 0 5 v0 rfl rfl) h0
  obtain ⟨n1, rfl, rfl, rfl, w1⟩ := open_int Try.underlying5 (hval 1 5 v1 rfl rfl) h1
  obtain ⟨n2, rfl, rfl, rfl, w2⟩ := open_int Try.underlying5 (hval 2 5 v2 rfl rfl) h2
  have hP : PaesField [.int .u8 n0, .int .u8 n1, .int .u8 n2] = some (((0 ≤ n0 ∧ n0 < 256) ∧ (0 ≤ n1 ∧ n1 < 256) ∧ (0 ≤ n2 ∧ n2 < 256)), .bool true) := by kernel_rfl
  have h := Sx.sound_plain (W := W) (args := [.int .u8 n0, .int .u8 n1, .int .u8 n2]) saesField (Sx.pureS_mk hP ⟨Sx.wf_u8 w0, Sx.wf_u8 w1, Sx.wf_u8 w2⟩ rfl) (Sx.plainL_ok (by kernel_rfl)).1
  simp only [Sx.concL, Sx.SVal.conc, Sx.concCs, Sx.Chunk.conc, List.append_nil] at h ⊢
  refine h.mono fun e W' ⟨he, hw⟩ => ?_
  subst he
  exact ⟨_, rfl, Sx.law_post hW' rfl hw Try.laidOut f6_read rfl f6_res Try.underlying4⟩
theorem f6_named : Try.checked.prog.funcNamed Rows.aesFieldRow.func = some 6 := by kernel_rfl
theorem f6_inst : Try.f6.isInstance Try.checked.prog Rows.aesFieldRow.origin Rows.aesFieldRow.targs := (of_decide_eq_true (by kernel_rfl))
theorem f6_wrap : Try.f6.isWrapper Try.checked.prog Rows.aesFieldRow.wrapper Rows.aesFieldRow.mainSum := (by unfold Func.isWrapper; first | (rw [if_pos (by decide +kernel)]; kernel_rfl) | (rw [if_neg (by decide +kernel)]; exact ⟨rfl, rfl⟩))
/-- Bytes are multiplied as in a field: each by each of a sum, in any order, and one that isn't 0 by one alone is 1: for any three bytes. No condition. -/
theorem aesField_holds : Rows.AesFieldSaid :=
  OpenClaim.holds_of_wide 6 Try.f6 rfl rfl rfl rfl rfl rfl rfl ⟨rfl, rfl, rfl, rfl, rfl⟩ rfl rfl rfl rfl rfl f6_named Try.func6 f6_closed
    f6_inst f6_wrap
    (fun os started H enc _ => aesField_lifted os started H enc)
end Go.Proofs.Ytefmjmghkedciaa
