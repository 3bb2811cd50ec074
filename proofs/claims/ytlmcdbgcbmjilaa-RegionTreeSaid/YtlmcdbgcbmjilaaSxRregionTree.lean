/- From any item of a right plan's tree upwards one comes to the only one of the last level, child by child, and no two have one place: for every plan and any two items. No condition. -/
import Derived.Test.YtlmcdbgcbmjilaaSxRegL
import Derived.Test.YtlmcdbgcbmjilaaSxRowA
import Derived.Test.YtlmcdbgcbmjilaaSxFregionTree
namespace Go.Proofs.Ytlmcdbgcbmjilaa
open Go.ChangeShapes Go.WideShapes Go.ChangeAt Go.RowKit Go.Sx
theorem f14_read : (Try.f14.params.toList.all fun t => Try.prog.readableRec t && decide (t < Try.prog.types.size)) = true := by kernel_rfl
theorem f14_res : Try.f14.resultTypes = #[4] := by kernel_rfl
set_option maxRecDepth 100000 in
theorem regionTree_lifted (os : Os) (started : os.Started) (H : Type) (enc : TypeId × Value → H) :
    ReturnsInHanded {} Try.checked os 14 .any (Rows.regionTreeSpec.pre6 enc Try.prog Try.f14 Rows.regionTreeRow.domain false) (Rows.regionTreeSpec.post enc Try.prog Try.f14 false true false false) := by
  refine returnsInHanded_of_change (C := Try.checked) Try.own started (by kernel_rfl) Try.func14
    (ChangeSpec.witness6 (enc := enc) (C := Try.checked) false ⟨#[], #[.agg #[.int .i64 0, .int .i64 0, .int .i64 0, .int .i64 0, .int .i64 0, .int .i64 0, .int .u64 0, .int .i64 0, .int .i64 0, .int .i64 0, .int .i64 0, .int .i64 0, .int .i64 0, .int .i64 0, .int .u8 0, .int .u8 0, .int .u8 0, .int .u8 0, .int .u8 0, .int .u8 0, .int .u8 0, .int .u8 0, .int .u8 0, .int .u8 0, .int .u8 0, .int .u8 0, .int .u8 0, .int .u8 0, .int .u8 0, .int .u8 0, .int .u8 0, .int .u8 0, .int .u8 0, .int .u8 0, .int .u8 0, .int .u8 0, .int .u8 0, .int .u8 0, .int .u8 0, .int .u8 0, .int .u8 0, .int .u8 0, .int .u8 0, .int .u8 0, .int .u8 0, .int .u8 0], .agg #[.int .i64 0, .int .i64 0], .agg #[.int .i64 0, .int .i64 0]], []⟩ 8 (by kernel_rfl) (by kernel_rfl) (by kernel_rfl) (by kernel_rfl)) ?_
  intro W base args ds gs before hval0 hW hcnd _
  have hval : ∀ (j : Nat) t v, Try.f14.params[j]? = some t → args[j]? = some v → Value.okWide Try.prog W .any base t v := hval0
  have hW' := hW
  obtain ⟨p, q, hA0, hV, rfl, hfz, hnd⟩ := hW
  have hA : DataW.TrodAll enc Try.prog W 0 (fun _ => true) true Try.f14.params.toList args.toList ds p := hA0
  rw [Try.params14] at hA hval
  obtain ⟨v0, vs0, d0, ds0, p0, q0, hv0, rfl, rfl, h0, hr0⟩ := trodAll_cons hA
  obtain ⟨v1, vs1, d1, ds1, p1, q1, hv1, rfl, rfl, h1, hr1⟩ := trodAll_cons hr0
  obtain ⟨v2, vs2, d2, ds2, p2, q2, hv2, rfl, rfl, h2, hr2⟩ := trodAll_cons hr1
  obtain ⟨rfl, rfl, rfl⟩ := trodAll_nil hr2
  subst hv1
  subst hv2
  have hargs : args = #[v0, v1, v2] := by have := congrArg List.toArray hv0; simpa using this
  subst hargs
  clear hv0
  obtain ⟨rfl, rfl⟩ := trodVars_none hV
  obtain ⟨cs0, rfl, k0⟩ := Sx.open_cells kinds_Plan cells_Plan key_Plan agg_Plan (hval 0 40 v0 rfl rfl) h0
  obtain ⟨x0, rfl, w0⟩ := open_Plan (fun _ => none) k0
  obtain ⟨cs1, rfl, k1⟩ := Sx.open_cells kinds_Item cells_Item key_Item agg_Item (hval 1 59 v1 rfl rfl) h1
  obtain ⟨x1, rfl, w1⟩ := open_Item (fun _ => none) k1
  obtain ⟨cs2, rfl, k2⟩ := Sx.open_cells kinds_Item cells_Item key_Item agg_Item (hval 2 59 v2 rfl rfl) h2
  obtain ⟨x2, rfl, w2⟩ := open_Item (fun _ => none) k2
  have hP : PregionTree [.agg (Sx.PlanV.cs x0), .agg (Sx.ItemV.cs x1), .agg (Sx.ItemV.cs x2)] = some ((PlanV.Wf x0 ∧ ItemV.Wf x1 ∧ ItemV.Wf x2), .bool true) := by kernel_rfl
  have h := Sx.sound_plain (W := W) (args := [.agg (Sx.PlanV.cs x0), .agg (Sx.ItemV.cs x1), .agg (Sx.ItemV.cs x2)]) sregionTree (Sx.pureS_mk hP ⟨w0, w1, w2⟩ rfl) (Sx.plainL_ok (by kernel_rfl)).1
  simp only [Sx.concL, Sx.SVal.conc, Sx.concCs, Sx.Chunk.conc, List.append_nil] at h ⊢
  refine h.mono fun e W' ⟨he, hw⟩ => ?_
  subst he
  exact ⟨_, rfl, Sx.law_post hW' rfl hw Try.laidOut f14_read rfl f14_res Try.underlying4⟩
theorem f14_named : Try.checked.prog.funcNamed Rows.regionTreeRow.func = some 14 := by kernel_rfl
theorem f14_inst : Try.f14.isInstance Try.checked.prog Rows.regionTreeRow.origin Rows.regionTreeRow.targs := (of_decide_eq_true (by kernel_rfl))
theorem f14_wrap : Try.f14.isWrapper Try.checked.prog Rows.regionTreeRow.wrapper Rows.regionTreeRow.mainSum := (by unfold Func.isWrapper; first | (rw [if_pos (by decide +kernel)]; kernel_rfl) | (rw [if_neg (by decide +kernel)]; exact ⟨rfl, rfl⟩))
/-- From any item of a right plan's tree upwards one comes to the only one of the last level, child by child, and no two have one place: for every plan and any two items. No condition. -/
theorem regionTree_holds : Rows.RegionTreeSaid :=
  OpenClaim.holds_of_wide 14 Try.f14 rfl rfl rfl rfl rfl rfl rfl ⟨rfl, rfl, rfl, rfl, rfl⟩ rfl rfl rfl rfl rfl f14_named Try.func14 f14_closed
    f14_inst f14_wrap
    (fun os started H enc _ => regionTree_lifted os started H enc)
end Go.Proofs.Ytlmcdbgcbmjilaa
