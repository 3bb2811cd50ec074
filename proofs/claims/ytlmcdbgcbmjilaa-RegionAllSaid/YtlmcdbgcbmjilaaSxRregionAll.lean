/- From the first address to the last one each byte of memory is one of just one thing, one behind the other: for every plan. No condition. -/
import Derived.Test.YtlmcdbgcbmjilaaSxRegA
import Derived.Test.YtlmcdbgcbmjilaaSxFregionAll
namespace Go.Proofs.Ytlmcdbgcbmjilaa
open Go.ChangeShapes Go.WideShapes Go.ChangeAt Go.RowKit Go.Sx
theorem f20_read : (Try.f20.params.toList.all fun t => Try.prog.readableRec t && decide (t < Try.prog.types.size)) = true := by kernel_rfl
theorem f20_res : Try.f20.resultTypes = #[4] := by kernel_rfl
set_option maxRecDepth 100000 in
theorem regionAll_lifted (os : Os) (started : os.Started) (H : Type) (enc : TypeId × Value → H) :
    ReturnsInHanded {} Try.checked os 20 .any (Rows.regionAllSpec.pre6 enc Try.prog Try.f20 Rows.regionAllRow.domain false) (Rows.regionAllSpec.post enc Try.prog Try.f20 false true false false) := by
  refine returnsInHanded_of_change (C := Try.checked) Try.own started (by kernel_rfl) Try.func20
    (ChangeSpec.witness6 (enc := enc) (C := Try.checked) false ⟨#[], #[.agg #[.int .i64 0, .int .i64 0, .int .i64 0, .int .i64 0, .int .i64 0, .int .i64 0, .int .u64 0, .int .i64 0, .int .i64 0, .int .i64 0, .int .i64 0, .int .i64 0, .int .i64 0, .int .i64 0, .int .u8 0, .int .u8 0, .int .u8 0, .int .u8 0, .int .u8 0, .int .u8 0, .int .u8 0, .int .u8 0, .int .u8 0, .int .u8 0, .int .u8 0, .int .u8 0, .int .u8 0, .int .u8 0, .int .u8 0, .int .u8 0, .int .u8 0, .int .u8 0, .int .u8 0, .int .u8 0, .int .u8 0, .int .u8 0, .int .u8 0, .int .u8 0, .int .u8 0, .int .u8 0, .int .u8 0, .int .u8 0, .int .u8 0, .int .u8 0, .int .u8 0, .int .u8 0]], []⟩ 8 (by kernel_rfl) (by kernel_rfl) (by kernel_rfl) (by kernel_rfl)) ?_
  intro W base args ds gs before hval0 hW hcnd _
  have hval : ∀ (j : Nat) t v, Try.f20.params[j]? = some t → args[j]? = some v → Value.okWide Try.prog W .any base t v := hval0
  have hW' := hW
  obtain ⟨p, q, hA0, hV, rfl, hfz, hnd⟩ := hW
  have hA : DataW.TrodAll enc Try.prog W 0 (fun _ => true) true Try.f20.params.toList args.toList ds p := hA0
  rw [Try.params20] at hA hval
  obtain ⟨v0, vs0, d0, ds0, p0, q0, hv0, rfl, rfl, h0, hr0⟩ := trodAll_cons hA
  obtain ⟨rfl, rfl, rfl⟩ := trodAll_nil hr0
  have hargs : args = #[v0] := by have := congrArg List.toArray hv0; simpa using this
  subst hargs
  clear hv0
  obtain ⟨rfl, rfl⟩ := trodVars_none hV
  obtain ⟨cs0, rfl, k0⟩ := Sx.open_cells kinds_Plan cells_Plan key_Plan agg_Plan (hval 0 40 v0 rfl rfl) h0
  obtain ⟨x0, rfl, w0⟩ := open_Plan (fun _ => none) k0
  have hP : PregionAll [.agg (Sx.PlanV.cs x0)] = some ((PlanV.Wf x0), .bool true) := by kernel_rfl
  have h := Sx.sound_plain (W := W) (args := [.agg (Sx.PlanV.cs x0)]) sregionAll (Sx.pureS_mk hP w0 rfl) (Sx.plainL_ok (by kernel_rfl)).1
  simp only [Sx.concL, Sx.SVal.conc, Sx.concCs, Sx.Chunk.conc, List.append_nil] at h ⊢
  refine h.mono fun e W' ⟨he, hw⟩ => ?_
  subst he
  exact ⟨_, rfl, Sx.law_post hW' rfl hw Try.laidOut f20_read rfl f20_res Try.underlying4⟩
theorem f20_named : Try.checked.prog.funcNamed Rows.regionAllRow.func = some 20 := by kernel_rfl
theorem f20_inst : Try.f20.isInstance Try.checked.prog Rows.regionAllRow.origin Rows.regionAllRow.targs := (of_decide_eq_true (by kernel_rfl))
theorem f20_wrap : Try.f20.isWrapper Try.checked.prog Rows.regionAllRow.wrapper Rows.regionAllRow.mainSum := (by unfold Func.isWrapper; first | (rw [if_pos (by decide +kernel)]; kernel_rfl) | (rw [if_neg (by decide +kernel)]; exact ⟨rfl, rfl⟩))
/-- From the first address to the last one each byte of memory is one of just one thing, one behind the other: for every plan. No condition. -/
theorem regionAll_holds : Rows.RegionAllSaid :=
  OpenClaim.holds_of_wide 20 Try.f20 rfl rfl rfl rfl rfl rfl rfl ⟨rfl, rfl, rfl, rfl, rfl⟩ rfl rfl rfl rfl rfl f20_named Try.func20 f20_closed
    f20_inst f20_wrap
    (fun os started H enc _ => regionAll_lifted os started H enc)
end Go.Proofs.Ytlmcdbgcbmjilaa
