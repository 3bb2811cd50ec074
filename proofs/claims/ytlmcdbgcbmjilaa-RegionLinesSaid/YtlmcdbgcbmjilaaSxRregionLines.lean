/- The line of any address, for any number of bytes, is told exactly, or what is wrong; so are the page, slot and bank of a line: for every plan. No condition. -/
import Derived.Test.YtlmcdbgcbmjilaaSxRegLa
import Derived.Test.YtlmcdbgcbmjilaaSxFregionLines
namespace Go.Proofs.Ytlmcdbgcbmjilaa
open Go.ChangeShapes Go.WideShapes Go.ChangeAt Go.RowKit Go.Sx
theorem f18_read : (Try.f18.params.toList.all fun t => Try.prog.readableRec t && decide (t < Try.prog.types.size)) = true := by kernel_rfl
theorem f18_res : Try.f18.resultTypes = #[4] := by kernel_rfl
set_option maxRecDepth 100000 in
theorem regionLines_lifted (os : Os) (started : os.Started) (H : Type) (enc : TypeId × Value → H) :
    ReturnsInHanded {} Try.checked os 18 .any (Rows.regionLinesSpec.pre6 enc Try.prog Try.f18 Rows.regionLinesRow.domain false) (Rows.regionLinesSpec.post enc Try.prog Try.f18 false true false false) := by
  refine returnsInHanded_of_change (C := Try.checked) Try.own started (by kernel_rfl) Try.func18
    (ChangeSpec.witness6 (enc := enc) (C := Try.checked) false ⟨#[], #[.agg #[.int .i64 0, .int .i64 0, .int .i64 0, .int .i64 0, .int .i64 0, .int .i64 0, .int .u64 0, .int .i64 0, .int .i64 0, .int .i64 0, .int .i64 0, .int .i64 0, .int .i64 0, .int .i64 0, .int .u8 0, .int .u8 0, .int .u8 0, .int .u8 0, .int .u8 0, .int .u8 0, .int .u8 0, .int .u8 0, .int .u8 0, .int .u8 0, .int .u8 0, .int .u8 0, .int .u8 0, .int .u8 0, .int .u8 0, .int .u8 0, .int .u8 0, .int .u8 0, .int .u8 0, .int .u8 0, .int .u8 0, .int .u8 0, .int .u8 0, .int .u8 0, .int .u8 0, .int .u8 0, .int .u8 0, .int .u8 0, .int .u8 0, .int .u8 0, .int .u8 0, .int .u8 0], .int .i64 0, .int .i64 0, .int .i64 0], []⟩ 8 (by kernel_rfl) (by kernel_rfl) (by kernel_rfl) (by kernel_rfl)) ?_
  intro W base args ds gs before hval0 hW hcnd _
  have hval : ∀ (j : Nat) t v, Try.f18.params[j]? = some t → args[j]? = some v → Value.okWide Try.prog W .any base t v := hval0
  have hW' := hW
  obtain ⟨p, q, hA0, hV, rfl, hfz, hnd⟩ := hW
  have hA : DataW.TrodAll enc Try.prog W 0 (fun _ => true) true Try.f18.params.toList args.toList ds p := hA0
  rw [Try.params18] at hA hval
  obtain ⟨v0, vs0, d0, ds0, p0, q0, hv0, rfl, rfl, h0, hr0⟩ := trodAll_cons hA
  obtain ⟨v1, vs1, d1, ds1, p1, q1, hv1, rfl, rfl, h1, hr1⟩ := trodAll_cons hr0
  obtain ⟨v2, vs2, d2, ds2, p2, q2, hv2, rfl, rfl, h2, hr2⟩ := trodAll_cons hr1
  obtain ⟨v3, vs3, d3, ds3, p3, q3, hv3, rfl, rfl, h3, hr3⟩ := trodAll_cons hr2
  obtain ⟨rfl, rfl, rfl⟩ := trodAll_nil hr3
  subst hv1
  subst hv2
  subst hv3
  have hargs : args = #[v0, v1, v2, v3] := by have := congrArg List.toArray hv0; simpa using this
  subst hargs
  clear hv0
  obtain ⟨rfl, rfl⟩ := trodVars_none hV
  obtain ⟨cs0, rfl, k0⟩ := Sx.open_cells kinds_Plan cells_Plan key_Plan agg_Plan (hval 0 40 v0 rfl rfl) h0
  obtain ⟨x0, rfl, w0⟩ := open_Plan (fun _ => none) k0
  obtain ⟨n1, rfl, rfl, rfl, w1⟩ := open_int Try.underlying3 (hval 1 3 v1 rfl rfl) h1
  obtain ⟨n2, rfl, rfl, rfl, w2⟩ := open_int Try.underlying3 (hval 2 3 v2 rfl rfl) h2
  obtain ⟨n3, rfl, rfl, rfl, w3⟩ := open_int Try.underlying3 (hval 3 3 v3 rfl rfl) h3
  have hP : PregionLines [.agg (Sx.PlanV.cs x0), .int .i64 n1, .int .i64 n2, .int .i64 n3] = some ((PlanV.Wf x0 ∧ I64 n1 ∧ I64 n2 ∧ I64 n3), .bool true) := by kernel_rfl
  have h := Sx.sound_plain (W := W) (args := [.agg (Sx.PlanV.cs x0), .int .i64 n1, .int .i64 n2, .int .i64 n3]) sregionLines (Sx.pureS_mk hP ⟨w0, Sx.wf_i64 w1, Sx.wf_i64 w2, Sx.wf_i64 w3⟩ rfl) (Sx.plainL_ok (by kernel_rfl)).1
  simp only [Sx.concL, Sx.SVal.conc, Sx.concCs, Sx.Chunk.conc, List.append_nil] at h ⊢
  refine h.mono fun e W' ⟨he, hw⟩ => ?_
  subst he
  exact ⟨_, rfl, Sx.law_post hW' rfl hw Try.laidOut f18_read rfl f18_res Try.underlying4⟩
theorem f18_named : Try.checked.prog.funcNamed Rows.regionLinesRow.func = some 18 := by kernel_rfl
theorem f18_inst : Try.f18.isInstance Try.checked.prog Rows.regionLinesRow.origin Rows.regionLinesRow.targs := (of_decide_eq_true (by kernel_rfl))
theorem f18_wrap : Try.f18.isWrapper Try.checked.prog Rows.regionLinesRow.wrapper Rows.regionLinesRow.mainSum := (by unfold Func.isWrapper; first | (rw [if_pos (by decide +kernel)]; kernel_rfl) | (rw [if_neg (by decide +kernel)]; exact ⟨rfl, rfl⟩))
/-- The line of any address, for any number of bytes, is told exactly, or what is wrong; so are the page, slot and bank of a line: for every plan. No condition. -/
theorem regionLines_holds : Rows.RegionLinesSaid :=
  OpenClaim.holds_of_wide 18 Try.f18 rfl rfl rfl rfl rfl rfl rfl ⟨rfl, rfl, rfl, rfl, rfl⟩ rfl rfl rfl rfl rfl f18_named Try.func18 f18_closed
    f18_inst f18_wrap
    (fun os started H enc _ => regionLines_lifted os started H enc)
end Go.Proofs.Ytlmcdbgcbmjilaa
