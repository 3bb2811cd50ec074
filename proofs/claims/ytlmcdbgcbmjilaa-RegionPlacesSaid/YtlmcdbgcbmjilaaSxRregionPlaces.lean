/- Where the bytes of any line, its tag, and the bytes of any item stand, and what stands at any address, is told exactly: for every plan. No condition. -/
import Derived.Test.YtlmcdbgcbmjilaaSxRegLb
import Derived.Test.YtlmcdbgcbmjilaaSxFregionPlaces
namespace Go.Proofs.Ytlmcdbgcbmjilaa
open Go.ChangeShapes Go.WideShapes Go.ChangeAt Go.RowKit Go.Sx
theorem f19_read : (Try.f19.params.toList.all fun t => Try.prog.readableRec t && decide (t < Try.prog.types.size)) = true := by kernel_rfl
theorem f19_res : Try.f19.resultTypes = #[4] := by kernel_rfl
set_option maxRecDepth 100000 in
theorem regionPlaces_lifted (os : Os) (started : os.Started) (H : Type) (enc : TypeId × Value → H) :
    ReturnsInHanded {} Try.checked os 19 .any (Rows.regionPlacesSpec.pre6 enc Try.prog Try.f19 Rows.regionPlacesRow.domain false) (Rows.regionPlacesSpec.post enc Try.prog Try.f19 false true false false) := by
  refine returnsInHanded_of_change (C := Try.checked) Try.own started (by kernel_rfl) Try.func19
    (ChangeSpec.witness6 (enc := enc) (C := Try.checked) false ⟨#[], #[.agg #[.int .i64 0, .int .i64 0, .int .i64 0, .int .i64 0, .int .i64 0, .int .i64 0, .int .u64 0, .int .i64 0, .int .i64 0, .int .i64 0, .int .i64 0, .int .i64 0, .int .i64 0, .int .i64 0, .int .u8 0, .int .u8 0, .int .u8 0, .int .u8 0, .int .u8 0, .int .u8 0, .int .u8 0, .int .u8 0, .int .u8 0, .int .u8 0, .int .u8 0, .int .u8 0, .int .u8 0, .int .u8 0, .int .u8 0, .int .u8 0, .int .u8 0, .int .u8 0, .int .u8 0, .int .u8 0, .int .u8 0, .int .u8 0, .int .u8 0, .int .u8 0, .int .u8 0, .int .u8 0, .int .u8 0, .int .u8 0, .int .u8 0, .int .u8 0, .int .u8 0, .int .u8 0], .int .i64 0, .agg #[.int .i64 0, .int .i64 0], .int .i64 0], []⟩ 8 (by kernel_rfl) (by kernel_rfl) (by kernel_rfl) (by kernel_rfl)) ?_
  intro W base args ds gs before hval0 hW hcnd _
  have hval : ∀ (j : Nat) t v, Try.f19.params[j]? = some t → args[j]? = some v → Value.okWide Try.prog W .any base t v := hval0
  have hW' := hW
  obtain ⟨p, q, hA0, hV, rfl, hfz, hnd⟩ := hW
  have hA : DataW.TrodAll enc Try.prog W 0 (fun _ => true) true Try.f19.params.toList args.toList ds p := hA0
  rw [Try.params19] at hA hval
  obtain ⟨v0, vs0, d0, ds0, p0, q0, hv0, rfl, rfl, h0, hr0⟩ := trodAll_cons hA
  obtain ⟨v1, vs1, d1, ds1, p1, q1, hv1, rfl, rfl, h1, hr1⟩ := trodAll_cons hr0
  obtain ⟨v2, vs2, d2, ds2, p2, q2, hv2, rfl, rfl, h2, hr2⟩ := trodAll_cons hr1
  obtain ⟨v3, vs3, d3, ds3, p3, q3, hv3, rfl, rfl, h3, hr3⟩ := trodAll_cons hr2
  obtain ⟨rfl, rfl, rfl⟩ := trodAll_nil hr3
  subst hv1
  subst hv2
  subst hv3
  have hargs : args = #[v0, v1, v2, v3] := by have := congrArg List.toArray hv0; simpa using this
  subst hargs
  clear hv0
  obtain ⟨rfl, rfl⟩ := trodVars_none hV
  obtain ⟨cs0, rfl, k0⟩ := Sx.open_cells kinds_Plan cells_Plan key_Plan agg_Plan (hval 0 40 v0 rfl rfl) h0
  obtain ⟨x0, rfl, w0⟩ := open_Plan (fun _ => none) k0
  obtain ⟨n1, rfl, rfl, rfl, w1⟩ := open_int Try.underlying3 (hval 1 3 v1 rfl rfl) h1
  obtain ⟨cs2, rfl, k2⟩ := Sx.open_cells kinds_Item cells_Item key_Item agg_Item (hval 2 59 v2 rfl rfl) h2
  obtain ⟨x2, rfl, w2⟩ := open_Item (fun _ => none) k2
  obtain ⟨n3, rfl, rfl, rfl, w3⟩ := open_int Try.underlying3 (hval 3 3 v3 rfl rfl) h3
  have hP : PregionPlaces [.agg (Sx.PlanV.cs x0), .int .i64 n1, .agg (Sx.ItemV.cs x2), .int .i64 n3] = some ((PlanV.Wf x0 ∧ I64 n1 ∧ ItemV.Wf x2 ∧ I64 n3), .bool true) := by kernel_rfl
  have h := Sx.sound_plain (W := W) (args := [.agg (Sx.PlanV.cs x0), .int .i64 n1, .agg (Sx.ItemV.cs x2), .int .i64 n3]) sregionPlaces (Sx.pureS_mk hP ⟨w0, Sx.wf_i64 w1, w2, Sx.wf_i64 w3⟩ rfl) (Sx.plainL_ok (by kernel_rfl)).1
  simp only [Sx.concL, Sx.SVal.conc, Sx.concCs, Sx.Chunk.conc, List.append_nil] at h ⊢
  refine h.mono fun e W' ⟨he, hw⟩ => ?_
  subst he
  exact ⟨_, rfl, Sx.law_post hW' rfl hw Try.laidOut f19_read rfl f19_res Try.underlying4⟩
theorem f19_named : Try.checked.prog.funcNamed Rows.regionPlacesRow.func = some 19 := by kernel_rfl
theorem f19_inst : Try.f19.isInstance Try.checked.prog Rows.regionPlacesRow.origin Rows.regionPlacesRow.targs := (of_decide_eq_true (by kernel_rfl))
theorem f19_wrap : Try.f19.isWrapper Try.checked.prog Rows.regionPlacesRow.wrapper Rows.regionPlacesRow.mainSum := (by unfold Func.isWrapper; first | (rw [if_pos (by decide +kernel)]; kernel_rfl) | (rw [if_neg (by decide +kernel)]; exact ⟨rfl, rfl⟩))
/-- Where the bytes of any line, its tag, and the bytes of any item stand, and what stands at any address, is told exactly: for every plan. No condition. -/
theorem regionPlaces_holds : Rows.RegionPlacesSaid :=
  OpenClaim.holds_of_wide 19 Try.f19 rfl rfl rfl rfl rfl rfl rfl ⟨rfl, rfl, rfl, rfl, rfl⟩ rfl rfl rfl rfl rfl f19_named Try.func19 f19_closed
    f19_inst f19_wrap
    (fun os started H enc _ => regionPlaces_lifted os started H enc)
end Go.Proofs.Ytlmcdbgcbmjilaa
