/- An operation changes no byte beside its own, and none, unless it is one that changes: for every operation and line. No condition. -/
import Derived.Test.YtlmcdbgcbmjilaaSxWordL
import Derived.Test.YtlmcdbgcbmjilaaSxFwordApart
namespace Go.Proofs.Ytlmcdbgcbmjilaa
open Go.ChangeShapes Go.WideShapes Go.ChangeAt Go.RowKit Go.Sx
theorem f10_read : (Try.f10.params.toList.all fun t => Try.prog.readableRec t && decide (t < Try.prog.types.size)) = true := by kernel_rfl
theorem f10_res : Try.f10.resultTypes = #[4] := by kernel_rfl
set_option maxRecDepth 100000 in
theorem wordApart_lifted (os : Os) (started : os.Started) (H : Type) (enc : TypeId × Value → H) :
    ReturnsInHanded {} Try.checked os 10 .any (Rows.wordApartSpec.pre6 enc Try.prog Try.f10 Rows.wordApartRow.domain false) (Rows.wordApartSpec.post enc Try.prog Try.f10 false true false false) := by
  refine returnsInHanded_of_change (C := Try.checked) Try.own started (by kernel_rfl) Try.func10
    (ChangeSpec.witness6 (enc := enc) (C := Try.checked) false ⟨#[], #[.agg #[.int .i64 0, .int .i64 0, .int .i64 0, .int .u64 0, .int .u64 0], .agg #[.int .u8 0, .int .u8 0, .int .u8 0, .int .u8 0, .int .u8 0, .int .u8 0, .int .u8 0, .int .u8 0, .int .u8 0, .int .u8 0, .int .u8 0, .int .u8 0, .int .u8 0, .int .u8 0, .int .u8 0, .int .u8 0, .int .u8 0, .int .u8 0, .int .u8 0, .int .u8 0, .int .u8 0, .int .u8 0, .int .u8 0, .int .u8 0, .int .u8 0, .int .u8 0, .int .u8 0, .int .u8 0, .int .u8 0, .int .u8 0, .int .u8 0, .int .u8 0]], []⟩ 8 (by kernel_rfl) (by kernel_rfl) (by kernel_rfl) (by kernel_rfl)) ?_
  intro W base args ds gs before hval0 hW hcnd _
  have hval : ∀ (j : Nat) t v, Try.f10.params[j]? = some t → args[j]? = some v → Value.okWide Try.prog W .any base t v := hval0
  have hW' := hW
  obtain ⟨p, q, hA0, hV, rfl, hfz, hnd⟩ := hW
  have hA : DataW.TrodAll enc Try.prog W 0 (fun _ => true) true Try.f10.params.toList args.toList ds p := hA0
  rw [Try.params10] at hA hval
  obtain ⟨v0, vs0, d0, ds0, p0, q0, hv0, rfl, rfl, h0, hr0⟩ := trodAll_cons hA
  obtain ⟨v1, vs1, d1, ds1, p1, q1, hv1, rfl, rfl, h1, hr1⟩ := trodAll_cons hr0
  obtain ⟨rfl, rfl, rfl⟩ := trodAll_nil hr1
  subst hv1
  have hargs : args = #[v0, v1] := by have := congrArg List.toArray hv0; simpa using this
  subst hargs
  clear hv0
  obtain ⟨rfl, rfl⟩ := trodVars_none hV
  obtain ⟨cs0, rfl, k0⟩ := Sx.open_cells kinds_Op cells_Op key_Op agg_Op (hval 0 47 v0 rfl rfl) h0
  obtain ⟨x0, rfl, w0⟩ := open_Op (fun _ => none) k0
  obtain ⟨cs1, rfl, k1⟩ := Sx.open_cells kinds_Lu8_32 cells_Lu8_32 key_Lu8_32 agg_Lu8_32 (hval 1 49 v1 rfl rfl) h1
  obtain ⟨x1, rfl, w1⟩ := open_Lu8_32 (fun _ => none) k1
  have hP : PwordApart [.agg (Sx.OpV.cs x0), .agg [.ints .u8 32 x1]] = some ((OpV.Wf x0 ∧ LineOk x1), .bool true) := by kernel_rfl
  have h := Sx.sound_plain (W := W) (args := [.agg (Sx.OpV.cs x0), .agg [.ints .u8 32 x1]]) swordApart (Sx.pureS_mk hP ⟨w0, w1⟩ rfl) (Sx.plainL_ok (by kernel_rfl)).1
  simp only [Sx.concL, Sx.SVal.conc, Sx.concCs, Sx.Chunk.conc, List.append_nil] at h ⊢
  refine h.mono fun e W' ⟨he, hw⟩ => ?_
  subst he
  exact ⟨_, rfl, Sx.law_post hW' rfl hw Try.laidOut f10_read rfl f10_res Try.underlying4⟩
theorem f10_named : Try.checked.prog.funcNamed Rows.wordApartRow.func = some 10 := by kernel_rfl
theorem f10_inst : Try.f10.isInstance Try.checked.prog Rows.wordApartRow.origin Rows.wordApartRow.targs := (of_decide_eq_true (by kernel_rfl))
theorem f10_wrap : Try.f10.isWrapper Try.checked.prog Rows.wordApartRow.wrapper Rows.wordApartRow.mainSum := (by unfold Func.isWrapper; first | (rw [if_pos (by decide +kernel)]; kernel_rfl) | (rw [if_neg (by decide +kernel)]; exact ⟨rfl, rfl⟩))
/-- An operation changes no byte beside its own, and none, unless it is one that changes: for every operation and line. No condition. -/
theorem wordApart_holds : Rows.WordApartSaid :=
  OpenClaim.holds_of_wide 10 Try.f10 rfl rfl rfl rfl rfl rfl rfl ⟨rfl, rfl, rfl, rfl, rfl⟩ rfl rfl rfl rfl rfl f10_named Try.func10 f10_closed
    f10_inst f10_wrap
    (fun os started H enc _ => wordApart_lifted os started H enc)
end Go.Proofs.Ytlmcdbgcbmjilaa
