/- Whether any plan is right, how many levels its tree has, how many items a level, and the least of its caches are told exactly: for every plan and every level. No condition. -/
import Derived.Test.YtlmcdbgcbmjilaaSxT19
import Derived.Test.YtlmcdbgcbmjilaaSxKinds
import Derived.Test.YtlmcdbgcbmjilaaSxR7f
namespace Go.Proofs.Ytlmcdbgcbmjilaa
open Go.ChangeShapes Go.WideShapes Go.ChangeAt Go.RowKit
theorem f7_read : (Try.f7.params.toList.all fun t => Try.prog.readableRec t && decide (t < Try.prog.types.size)) = true := by kernel_rfl
theorem f7_res : Try.f7.resultTypes = #[4] := by kernel_rfl
set_option maxRecDepth 100000 in
theorem planChecks_lifted (os : Os) (started : os.Started) (H : Type) (enc : TypeId × Value → H) :
    ReturnsInHanded {} Try.checked os 7 .any (Rows.planChecksSpec.pre6 enc Try.prog Try.f7 Rows.planChecksRow.domain false) (Rows.planChecksSpec.post enc Try.prog Try.f7 false true false false) := by
  refine returnsInHanded_of_change (C := Try.checked) Try.own started (by kernel_rfl) Try.func7
    (ChangeSpec.witness6 (enc := enc) (C := Try.checked) false ⟨#[], #[.agg ((List.replicate 6 (Value.int .i64 0)) ++ [Value.int .u64 0] ++ (List.replicate 7 (Value.int .i64 0)) ++ (List.replicate 32 (Value.int .u8 0))).toArray, .int .i64 0], []⟩ 8 (by kernel_rfl) (by kernel_rfl) (by kernel_rfl) (by kernel_rfl)) ?_
  intro W base args ds gs before hval0 hW hcnd _
  have hval : ∀ (j : Nat) t v, Try.f7.params[j]? = some t → args[j]? = some v → Value.okWide Try.prog W .any base t v := hval0
  have hW' := hW
  obtain ⟨p, q, hA0, hV, rfl, hfz, hnd⟩ := hW
  have hA : DataW.TrodAll enc Try.prog W 0 (fun _ => true) true Try.f7.params.toList args.toList ds p := hA0
  rw [Try.params7] at hA hval
  obtain ⟨v0, vs0, d0, ds0, p0, q0, hv0, rfl, rfl, h0, hr0⟩ := trodAll_cons hA
  obtain ⟨v1, vs1, d1, ds1, p1, q1, hv1, rfl, rfl, h1, hr1⟩ := trodAll_cons hr0
  obtain ⟨rfl, rfl, rfl⟩ := trodAll_nil hr1
  subst hv1
  have hargs : args = #[v0, v1] := by have := congrArg List.toArray hv0; simpa using this
  subst hargs
  clear hv0
  obtain ⟨rfl, rfl⟩ := trodVars_none hV
  obtain ⟨cs0, rfl, k0⟩ := Sx.open_cells kinds_plan cells_plan key_plan agg_plan (hval 0 40 v0 rfl rfl) h0
  obtain ⟨x0, rfl, w0⟩ := Sx.open_plan (fun _ => none) k0
  obtain ⟨n1, rfl, rfl, rfl, w1⟩ := open_int Try.underlying3 (hval 1 3 v1 rfl rfl) h1
  have h := Sx.sound_plain (W := W) (args := [.agg x0.cs, .int .i64 n1]) s7 (by exact rfl) (by simp only [Sx.okL, Sx.SVal.ok, Sx.okCs, Sx.Chunk.ok, Sx.PlanV.cs, and_true]; try trivial)
  simp only [Sx.concL, Sx.SVal.conc, Sx.concCs, Sx.Chunk.conc, List.append_nil] at h ⊢
  refine h.mono fun e W' ⟨he, hw⟩ => ?_
  subst he
  exact ⟨_, rfl, Sx.law_post hW' rfl hw Try.laidOut f7_read rfl f7_res Try.underlying4⟩
theorem f7_named : Try.checked.prog.funcNamed Rows.planChecksRow.func = some 7 := by kernel_rfl
theorem f7_inst : Try.f7.isInstance Try.checked.prog Rows.planChecksRow.origin Rows.planChecksRow.targs := (of_decide_eq_true (by kernel_rfl))
theorem f7_wrap : Try.f7.isWrapper Try.checked.prog Rows.planChecksRow.wrapper Rows.planChecksRow.mainSum := (by unfold Func.isWrapper; first | (rw [if_pos (by decide +kernel)]; kernel_rfl) | (rw [if_neg (by decide +kernel)]; exact ⟨rfl, rfl⟩))
/-- Whether any plan is right, how many levels its tree has, how many items a level, and the least of its caches are told exactly: for every plan and every level. No condition. -/
theorem planChecks_holds : Rows.PlanChecksSaid :=
  OpenClaim.holds_of_wide 7 Try.f7 rfl rfl rfl rfl rfl rfl rfl ⟨rfl, rfl, rfl, rfl, rfl⟩ rfl rfl rfl rfl rfl f7_named Try.func7 f7_closed
    f7_inst f7_wrap
    (fun os started H enc _ => planChecks_lifted os started H enc)
end Go.Proofs.Ytlmcdbgcbmjilaa
