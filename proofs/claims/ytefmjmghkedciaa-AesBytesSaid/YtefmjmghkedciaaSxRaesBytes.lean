/- Two parts of the proof. -/
import Derived.Test.YtefmjmghkedciaaSxRowA
import Derived.Test.YtefmjmghkedciaaSxLBytes
set_option linter.unusedVariables false
set_option linter.unusedSimpArgs false
namespace Go.Proofs.Ytefmjmghkedciaa
theorem f5_lifted : (Rows.aesBytesRow.lifted == Try.prog.liftsFinal) = true := by rw [prog_lifts]; rfl
theorem f5_make : (Try.prog.make == some Rows.aesBytesRow.make) = true := by rw [prog_make]; rfl
set_option maxHeartbeats 4000000 in
theorem f5_closed' : joinedFacts Try.prog 5 Try.f5 Rows.aesBytesSpec Rows.aesBytesRow = true := by
  simp only [joinedFacts, Bool.and_eq_true]
  repeat' apply And.intro
  all_goals first | (with_reducible exact prog_mayEnter) | (with_reducible exact f5_lifted) | (with_reducible exact f5_make) | (as_aux_lemma => kernel_rfl)
theorem f5_closed : joinedFacts Try.checked.prog 5 Try.f5 Rows.aesBytesSpec Rows.aesBytesRow = true := f5_closed'
end Go.Proofs.Ytefmjmghkedciaa

namespace Go.Proofs.Ytefmjmghkedciaa
open Go.ChangeShapes Go.WideShapes Go.ChangeAt Go.RowKit Go.Sx
theorem f5_read : (Try.f5.params.toList.all fun t => Try.prog.readableRec t && decide (t < Try.prog.types.size)) = true := by kernel_rfl
theorem f5_res : Try.f5.resultTypes = #[4] := by kernel_rfl
set_option maxRecDepth 100000 in
theorem aesBytes_lifted (os : Os) (started : os.Started) (H : Type) (enc : TypeId × Value → H) :
    ReturnsInHanded {} Try.checked os 5 .any (Rows.aesBytesSpec.pre6 enc Try.prog Try.f5 Rows.aesBytesRow.domain false) (Rows.aesBytesSpec.post enc Try.prog Try.f5 false true false false) := by
  refine returnsInHanded_of_change (C := Try.checked) Try.own started (by kernel_rfl) Try.func5
    (ChangeSpec.witness6 (enc := enc) (C := Try.checked) false ⟨#[], #[.int .u8 0, .int .u8 0], []⟩ 8 (by kernel_rfl) (by kernel_rfl) (by kernel_rfl) (by kernel_rfl)) ?_
  intro W base args ds gs before hval0 hW hcnd _
  have hval : ∀ (j : Nat) t v, Try.f5.params[j]? = some t → args[j]? = some v → Value.okWide Try.prog W .any base t v := hval0
  have hW' := hW
  obtain ⟨p, q, hA0, hV, rfl, hfz, hnd⟩ := hW
  have hA : DataW.TrodAll enc Try.prog W 0 (fun _ => true) true Try.f5.params.toList args.toList ds p := hA0
  rw [Try.params5] at hA hval
  obtain ⟨v0, vs0, d0, ds0, p0, q0, hv0, rfl, rfl, h0, hr0⟩ := trodAll_cons hA
  obtain ⟨v1, vs1, d1, ds1, p1, q1, hv1, rfl, rfl, h1, hr1⟩ := trodAll_cons hr0
  obtain ⟨rfl, rfl, rfl⟩ := trodAll_nil hr1
  subst hv1
  have hargs : args = #[v0, v1] := by have := congrArg List.toArray hv0; simpa using this
  subst hargs
  clear hv0
  obtain ⟨rfl, rfl⟩ := trodVars_none hV
  obtain ⟨n0, rfl, rfl, rfl, w0⟩ := open_int Try.underlying5 (hval 0 5 v0 rfl rfl) h0
  obtain ⟨n1, rfl, rfl, rfl, w1⟩ := open_int Try.underlying5 (hval 1 5 v1 rfl rfl) h1
  have hP : PaesBytes [.int .u8 n0, .int .u8 n1] = some (((0 ≤ n0 ∧ n0 < 256) ∧ (0 ≤ n1 ∧ n1 < 256)), .bool true) := by kernel_rfl
  have h := Sx.sound_plain (W := W) (args := [.int .u8 n0, .int .u8 n1]) saesBytes (Sx.pureS_mk hP ⟨Sx.wf_u8 w0, Sx.wf_u8 w1⟩ rfl) (Sx.plainL_ok (by kernel_rfl)).1
  simp only [Sx.concL, Sx.SVal.conc, Sx.concCs, Sx.Chunk.conc, List.append_nil] at h ⊢
  refine h.mono fun e W' ⟨he, hw⟩ => ?_
  subst he
  exact ⟨_, rfl, Sx.law_post hW' rfl hw Try.laidOut f5_read rfl f5_res Try.underlying4⟩
theorem f5_named : Try.checked.prog.funcNamed Rows.aesBytesRow.func = some 5 := by kernel_rfl
theorem f5_inst : Try.f5.isInstance Try.checked.prog Rows.aesBytesRow.origin Rows.aesBytesRow.targs := (of_decide_eq_true (by kernel_rfl))
theorem f5_wrap : Try.f5.isWrapper Try.checked.prog Rows.aesBytesRow.wrapper Rows.aesBytesRow.mainSum := (by unfold Func.isWrapper; first | (rw [if_pos (by decide +kernel)]; kernel_rfl) | (rw [if_neg (by decide +kernel)]; exact ⟨rfl, rfl⟩))
/-- Any two bytes multiplied, and the byte that stands for any one, are told exactly: for any two bytes. No condition. -/
theorem aesBytes_holds : Rows.AesBytesSaid :=
  OpenClaim.holds_of_wide 5 Try.f5 rfl rfl rfl rfl rfl rfl rfl ⟨rfl, rfl, rfl, rfl, rfl⟩ rfl rfl rfl rfl rfl f5_named Try.func5 f5_closed
    f5_inst f5_wrap
    (fun os started H enc _ => aesBytes_lifted os started H enc)
end Go.Proofs.Ytefmjmghkedciaa
