/- Any number's bytes behind any others, and the number that bytes are, are told exactly; it is read back from 8 bytes: for every row of bytes, every number, and every count. No condition. -/
import Derived.Test.YtlmcdbgcbmjilaaSxT10
import Derived.Test.YtlmcdbgcbmjilaaSxPlanRow
import Derived.Test.YtlmcdbgcbmjilaaSxR3f
namespace Go.Proofs.Ytlmcdbgcbmjilaa
open Go.ChangeShapes Go.WideShapes Go.ChangeAt Go.RowKit
theorem f3_read : (Try.f3.params.toList.all fun t => Try.prog.readableRec t && decide (t < Try.prog.types.size)) = true := by kernel_rfl
theorem f3_res : Try.f3.resultTypes = #[4] := by kernel_rfl
theorem cells5 : Try.prog.cellsOf 5 = 1 := by kernel_rfl
set_option maxRecDepth 100000 in
theorem bitsNumbers_lifted (os : Os) (started : os.Started) (H : Type) (enc : TypeId × Value → H) :
    ReturnsInHanded {} Try.checked os 3 .any (Rows.bitsNumbersSpec.pre6 enc Try.prog Try.f3 Rows.bitsNumbersRow.domain false) (Rows.bitsNumbersSpec.post enc Try.prog Try.f3 false true false false) := by
  refine returnsInHanded_of_change (C := Try.checked) Try.own started (by kernel_rfl) Try.func3
    (ChangeSpec.witness6 (enc := enc) (C := Try.checked) false ⟨#[], #[.slice none 0 0, .int .u64 0, .int .i64 0], []⟩ 8 (by kernel_rfl) (by kernel_rfl) (by kernel_rfl) (by kernel_rfl)) ?_
  intro W base args ds gs before hval0 hW hcnd _
  have hval : ∀ (j : Nat) t v, Try.f3.params[j]? = some t → args[j]? = some v → Value.okWide Try.prog W .any base t v := hval0
  have hW' := hW
  obtain ⟨p, q, hA0, hV, rfl, hfz, hnd⟩ := hW
  have hA : DataW.TrodAll enc Try.prog W 0 (fun _ => true) true Try.f3.params.toList args.toList ds p := hA0
  rw [Try.params3] at hA hval
  obtain ⟨v0, vs0, d0, ds0, p0, q0, hv0, rfl, rfl, h0, hr0⟩ := trodAll_cons hA
  obtain ⟨v1, vs1, d1, ds1, p1, q1, hv1, rfl, rfl, h1, hr1⟩ := trodAll_cons hr0
  obtain ⟨v2, vs2, d2, ds2, p2, q2, hv2, rfl, rfl, h2, hr2⟩ := trodAll_cons hr1
  obtain ⟨rfl, rfl, rfl⟩ := trodAll_nil hr2
  subst hv1
  subst hv2
  have hargs : args = #[v0, v1, v2] := by have := congrArg List.toArray hv0; simpa using this
  subst hargs
  clear hv0
  obtain ⟨rfl, rfl⟩ := trodVars_none hV
  obtain ⟨q, len, cap, xs, rfl, hl, hlc, hcm, hq, hcell, hx⟩ := Sx.open_nums Try.underlying22 Try.underlying5 cells5 (hval 0 22 v0 rfl rfl) h0
  obtain ⟨n1, rfl, rfl, rfl, w1⟩ := open_int Try.underlying23 (hval 1 23 v1 rfl rfl) h1
  obtain ⟨n2, rfl, rfl, rfl, w2⟩ := open_int Try.underlying3 (hval 2 3 v2 rfl rfl) h2
  have h := Sx.sound_nums (W := W) (k := .u8) (q := q) (rest := [.int .u64 n1, .int .i64 n2]) s3 hl hq hcell ⟨_, _, _, _, _, rfl, rfl, hl, hlc, (fun x hx2 => Sx.wf_u8 (hx x hx2)), (Sx.wf_u64 w1).1, (Sx.wf_u64 w1).2, Sx.wf_i64 w2, rfl⟩ (by simp only [Sx.okL, Sx.SVal.ok, Sx.okCs, Sx.Chunk.ok, Sx.PlanV.cs, and_true]; try trivial)
  simp only [Sx.concL, Sx.SVal.conc, Sx.concCs, Sx.Chunk.conc, List.append_nil] at h ⊢
  refine h.mono fun e W' ⟨he, hw⟩ => ?_
  subst he
  exact ⟨_, rfl, Sx.law_post hW' rfl hw Try.laidOut f3_read rfl f3_res Try.underlying4⟩
theorem f3_named : Try.checked.prog.funcNamed Rows.bitsNumbersRow.func = some 3 := by kernel_rfl
theorem f3_inst : Try.f3.isInstance Try.checked.prog Rows.bitsNumbersRow.origin Rows.bitsNumbersRow.targs := (of_decide_eq_true (by kernel_rfl))
theorem f3_wrap : Try.f3.isWrapper Try.checked.prog Rows.bitsNumbersRow.wrapper Rows.bitsNumbersRow.mainSum := (by unfold Func.isWrapper; first | (rw [if_pos (by decide +kernel)]; kernel_rfl) | (rw [if_neg (by decide +kernel)]; exact ⟨rfl, rfl⟩))
/-- Any number's bytes behind any others, and the number that bytes are, are told exactly; it is read back from 8 bytes: for every row of bytes, every number, and every count. No condition. -/
theorem bitsNumbers_holds : Rows.BitsNumbersSaid :=
  OpenClaim.holds_of_wide 3 Try.f3 rfl rfl rfl rfl rfl rfl rfl ⟨rfl, rfl, rfl, rfl, rfl⟩ rfl rfl rfl rfl rfl f3_named Try.func3 f3_closed
    f3_inst f3_wrap
    (fun os started H enc _ => bitsNumbers_lifted os started H enc)
end Go.Proofs.Ytlmcdbgcbmjilaa
