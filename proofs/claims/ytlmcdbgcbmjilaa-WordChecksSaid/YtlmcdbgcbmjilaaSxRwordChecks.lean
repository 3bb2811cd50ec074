/- Two parts of the proof. -/
import Derived.Test.YtlmcdbgcbmjilaaSxRowA
import Derived.Test.YtlmcdbgcbmjilaaSxWordC3
namespace Go.Proofs.Ytlmcdbgcbmjilaa
theorem f28_lifted : (Rows.wordChecksRow.lifted == Try.prog.liftsFinal) = true := by rw [prog_lifts]; rfl
theorem f28_make : (Try.prog.make == some Rows.wordChecksRow.make) = true := by rw [prog_make]; rfl
set_option maxHeartbeats 4000000 in
theorem f28_closed' : joinedFacts Try.prog 28 Try.f28 Rows.wordChecksSpec Rows.wordChecksRow = true := by
  simp only [joinedFacts, Bool.and_eq_true]
  repeat' apply And.intro
  all_goals first | (with_reducible exact prog_mayEnter) | (with_reducible exact f28_lifted) | (with_reducible exact f28_make) | (as_aux_lemma => kernel_rfl)
theorem f28_closed : joinedFacts Try.checked.prog 28 Try.f28 Rows.wordChecksSpec Rows.wordChecksRow = true := f28_closed'
end Go.Proofs.Ytlmcdbgcbmjilaa

namespace Go.Proofs.Ytlmcdbgcbmjilaa
open Go.ChangeShapes Go.WideShapes Go.ChangeAt Go.RowKit Go.Sx
theorem f28_read : (Try.f28.params.toList.all fun t => Try.prog.readableRec t && decide (t < Try.prog.types.size)) = true := by kernel_rfl
theorem f28_res : Try.f28.resultTypes = #[4] := by kernel_rfl
set_option maxRecDepth 100000 in
theorem wordChecks_lifted (os : Os) (started : os.Started) (H : Type) (enc : TypeId × Value → H) :
    ReturnsInHanded {} Try.checked os 28 .any (Rows.wordChecksSpec.pre6 enc Try.prog Try.f28 Rows.wordChecksRow.domain false) (Rows.wordChecksSpec.post enc Try.prog Try.f28 false true false false) := by
  refine returnsInHanded_of_change (C := Try.checked) Try.own started (by kernel_rfl) Try.func28
    (ChangeSpec.witness6 (enc := enc) (C := Try.checked) false ⟨#[], #[.agg #[.int .i64 0, .int .i64 0, .int .i64 0, .int .i64 0, .int .i64 0, .int .i64 0, .int .u64 0, .int .i64 0, .int .i64 0, .int .i64 0, .int .i64 0, .int .i64 0, .int .i64 0, .int .i64 0, .int .u8 0, .int .u8 0, .int .u8 0, .int .u8 0, .int .u8 0, .int .u8 0, .int .u8 0, .int .u8 0, .int .u8 0, .int .u8 0, .int .u8 0, .int .u8 0, .int .u8 0, .int .u8 0, .int .u8 0, .int .u8 0, .int .u8 0, .int .u8 0, .int .u8 0, .int .u8 0, .int .u8 0, .int .u8 0, .int .u8 0, .int .u8 0, .int .u8 0, .int .u8 0, .int .u8 0, .int .u8 0, .int .u8 0, .int .u8 0, .int .u8 0, .int .u8 0], .agg #[.int .i64 0, .int .i64 0, .int .i64 0, .int .u64 0, .int .u64 0]], []⟩ 8 (by kernel_rfl) (by kernel_rfl) (by kernel_rfl) (by kernel_rfl)) ?_
  intro W base args ds gs before hval0 hW hcnd _
  have hval : ∀ (j : Nat) t v, Try.f28.params[j]? = some t → args[j]? = some v → Value.okWide Try.prog W .any base t v := hval0
  have hW' := hW
  obtain ⟨p, q, hA0, hV, rfl, hfz, hnd⟩ := hW
  have hA : DataW.TrodAll enc Try.prog W 0 (fun _ => true) true Try.f28.params.toList args.toList ds p := hA0
  rw [Try.params28] at hA hval
  obtain ⟨v0, vs0, d0, ds0, p0, q0, hv0, rfl, rfl, h0, hr0⟩ := trodAll_cons hA
  obtain ⟨v1, vs1, d1, ds1, p1, q1, hv1, rfl, rfl, h1, hr1⟩ := trodAll_cons hr0
  obtain ⟨rfl, rfl, rfl⟩ := trodAll_nil hr1
  subst hv1
  have hargs : args = #[v0, v1] := by have := congrArg List.toArray hv0; simpa using this
  subst hargs
  clear hv0
  obtain ⟨rfl, rfl⟩ := trodVars_none hV
  obtain ⟨cs0, rfl, k0⟩ := Sx.open_cells kinds_Plan cells_Plan key_Plan agg_Plan (hval 0 40 v0 rfl rfl) h0
  obtain ⟨x0, rfl, w0⟩ := open_Plan (fun _ => none) k0
  obtain ⟨cs1, rfl, k1⟩ := Sx.open_cells kinds_Op cells_Op key_Op agg_Op (hval 1 47 v1 rfl rfl) h1
  obtain ⟨x1, rfl, w1⟩ := open_Op (fun _ => none) k1
  have hP : PwordChecks [.agg (Sx.PlanV.cs x0), .agg (Sx.OpV.cs x1)] = some ((PlanV.Wf x0 ∧ OpV.Wf x1), .bool true) := by kernel_rfl
  have h := Sx.sound_plain (W := W) (args := [.agg (Sx.PlanV.cs x0), .agg (Sx.OpV.cs x1)]) swordChecks (Sx.pureS_mk hP ⟨w0, w1⟩ rfl) (Sx.plainL_ok (by kernel_rfl)).1
  simp only [Sx.concL, Sx.SVal.conc, Sx.concCs, Sx.Chunk.conc, List.append_nil] at h ⊢
  refine h.mono fun e W' ⟨he, hw⟩ => ?_
  subst he
  exact ⟨_, rfl, Sx.law_post hW' rfl hw Try.laidOut f28_read rfl f28_res Try.underlying4⟩
theorem f28_named : Try.checked.prog.funcNamed Rows.wordChecksRow.func = some 28 := by kernel_rfl
theorem f28_inst : Try.f28.isInstance Try.checked.prog Rows.wordChecksRow.origin Rows.wordChecksRow.targs := (of_decide_eq_true (by kernel_rfl))
theorem f28_wrap : Try.f28.isWrapper Try.checked.prog Rows.wordChecksRow.wrapper Rows.wordChecksRow.mainSum := (by unfold Func.isWrapper; first | (rw [if_pos (by decide +kernel)]; kernel_rfl) | (rw [if_neg (by decide +kernel)]; exact ⟨rfl, rfl⟩))
/-- Whether any operation is right for any plan, and its line, is told exactly: for every plan and operation. No condition. -/
theorem wordChecks_holds : Rows.WordChecksSaid :=
  OpenClaim.holds_of_wide 28 Try.f28 rfl rfl rfl rfl rfl rfl rfl ⟨rfl, rfl, rfl, rfl, rfl⟩ rfl rfl rfl rfl rfl f28_named Try.func28 f28_closed
    f28_inst f28_wrap
    (fun os started H enc _ => wordChecks_lifted os started H enc)
end Go.Proofs.Ytlmcdbgcbmjilaa
