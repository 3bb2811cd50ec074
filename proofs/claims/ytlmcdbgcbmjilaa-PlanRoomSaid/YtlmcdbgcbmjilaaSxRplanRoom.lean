/- A right plan's engines have room for the ways of as many pages as there are banks, and one item more: for every plan. No condition. -/
import Derived.Test.YtlmcdbgcbmjilaaSxFitW
import Derived.Test.YtlmcdbgcbmjilaaSxRowA
import Derived.Test.YtlmcdbgcbmjilaaSxFplanRoom
namespace Go.Proofs.Ytlmcdbgcbmjilaa
open Go.ChangeShapes Go.WideShapes Go.ChangeAt Go.RowKit Go.Sx
theorem f13_read : (Try.f13.params.toList.all fun t => Try.prog.readableRec t && decide (t < Try.prog.types.size)) = true := by kernel_rfl
theorem f13_res : Try.f13.resultTypes = #[4] := by kernel_rfl
set_option maxRecDepth 100000 in
theorem planRoom_lifted (os : Os) (started : os.Started) (H : Type) (enc : TypeId × Value → H) :
    ReturnsInHanded {} Try.checked os 13 .any (Rows.planRoomSpec.pre6 enc Try.prog Try.f13 Rows.planRoomRow.domain false) (Rows.planRoomSpec.post enc Try.prog Try.f13 false true false false) := by
  refine returnsInHanded_of_change (C := Try.checked) Try.own started (by kernel_rfl) Try.func13
    (ChangeSpec.witness6 (enc := enc) (C := Try.checked) false ⟨#[], #[.agg #[.int .i64 0, .int .i64 0, .int .i64 0, .int .i64 0, .int .i64 0, .int .i64 0, .int .u64 0, .int .i64 0, .int .i64 0, .int .i64 0, .int .i64 0, .int .i64 0, .int .i64 0, .int .i64 0, .int .u8 0, .int .u8 0, .int .u8 0, .int .u8 0, .int .u8 0, .int .u8 0, .int .u8 0, .int .u8 0, .int .u8 0, .int .u8 0, .int .u8 0, .int .u8 0, .int .u8 0, .int .u8 0, .int .u8 0, .int .u8 0, .int .u8 0, .int .u8 0, .int .u8 0, .int .u8 0, .int .u8 0, .int .u8 0, .int .u8 0, .int .u8 0, .int .u8 0, .int .u8 0, .int .u8 0, .int .u8 0, .int .u8 0, .int .u8 0, .int .u8 0, .int .u8 0]], []⟩ 8 (by kernel_rfl) (by kernel_rfl) (by kernel_rfl) (by kernel_rfl)) ?_
  intro W base args ds gs before hval0 hW hcnd _
  have hval : ∀ (j : Nat) t v, Try.f13.params[j]? = some t → args[j]? = some v → Value.okWide Try.prog W .any base t v := hval0
  have hW' := hW
  obtain ⟨p, q, hA0, hV, rfl, hfz, hnd⟩ := hW
  have hA : DataW.TrodAll enc Try.prog W 0 (fun _ => true) true Try.f13.params.toList args.toList ds p := hA0
  rw [Try.params13] at hA hval
  obtain ⟨v0, vs0, d0, ds0, p0, q0, hv0, rfl, rfl, h0, hr0⟩ := trodAll_cons hA
  obtain ⟨rfl, rfl, rfl⟩ := trodAll_nil hr0
  have hargs : args = #[v0] := by have := congrArg List.toArray hv0; simpa using this
  subst hargs
  clear hv0
  obtain ⟨rfl, rfl⟩ := trodVars_none hV
  obtain ⟨cs0, rfl, k0⟩ := Sx.open_cells kinds_Plan cells_Plan key_Plan agg_Plan (hval 0 40 v0 rfl rfl) h0
  obtain ⟨x0, rfl, w0⟩ := open_Plan (fun _ => none) k0
  have hP : PplanRoom [.agg (Sx.PlanV.cs x0)] = some ((PlanV.Wf x0), .bool true) := by kernel_rfl
  have h := Sx.sound_plain (W := W) (args := [.agg (Sx.PlanV.cs x0)]) splanRoom (Sx.pureS_mk hP w0 rfl) (Sx.plainL_ok (by kernel_rfl)).1
  simp only [Sx.concL, Sx.SVal.conc, Sx.concCs, Sx.Chunk.conc, List.append_nil] at h ⊢
  refine h.mono fun e W' ⟨he, hw⟩ => ?_
  subst he
  exact ⟨_, rfl, Sx.law_post hW' rfl hw Try.laidOut f13_read rfl f13_res Try.underlying4⟩
theorem f13_named : Try.checked.prog.funcNamed Rows.planRoomRow.func = some 13 := by kernel_rfl
theorem f13_inst : Try.f13.isInstance Try.checked.prog Rows.planRoomRow.origin Rows.planRoomRow.targs := (of_decide_eq_true (by kernel_rfl))
theorem f13_wrap : Try.f13.isWrapper Try.checked.prog Rows.planRoomRow.wrapper Rows.planRoomRow.mainSum := (by unfold Func.isWrapper; first | (rw [if_pos (by decide +kernel)]; kernel_rfl) | (rw [if_neg (by decide +kernel)]; exact ⟨rfl, rfl⟩))
/-- A right plan's engines have room for the ways of as many pages as there are banks, and one item more: for every plan. No condition. -/
theorem planRoom_holds : Rows.PlanRoomSaid :=
  OpenClaim.holds_of_wide 13 Try.f13 rfl rfl rfl rfl rfl rfl rfl ⟨rfl, rfl, rfl, rfl, rfl⟩ rfl rfl rfl rfl rfl f13_named Try.func13 f13_closed
    f13_inst f13_wrap
    (fun os started H enc _ => planRoom_lifted os started H enc)
end Go.Proofs.Ytlmcdbgcbmjilaa
