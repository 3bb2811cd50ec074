/- What is put at one place is got there, and what stands at bits beside is not changed: for every row of bytes, all places, all counts and every number. No condition. -/
import Derived.Test.YtlmcdbgcbmjilaaSxT11
import Derived.Test.YtlmcdbgcbmjilaaSxPlanRow
import Derived.Test.YtlmcdbgcbmjilaaSxR5f
namespace Go.Proofs.Ytlmcdbgcbmjilaa
open Go.ChangeShapes Go.WideShapes Go.ChangeAt Go.RowKit
theorem f5_read : (Try.f5.params.toList.all fun t => Try.prog.readableRec t && decide (t < Try.prog.types.size)) = true := by kernel_rfl
theorem f5_res : Try.f5.resultTypes = #[4] := by kernel_rfl
theorem cells5 : Try.prog.cellsOf 5 = 1 := by kernel_rfl
set_option maxRecDepth 100000 in
theorem bitsBeside_lifted (os : Os) (started : os.Started) (H : Type) (enc : TypeId × Value → H) :
    ReturnsInHanded {} Try.checked os 5 .any (Rows.bitsBesideSpec.pre6 enc Try.prog Try.f5 Rows.bitsBesideRow.domain false) (Rows.bitsBesideSpec.post enc Try.prog Try.f5 false true false false) := by
  refine returnsInHanded_of_change (C := Try.checked) Try.own started (by kernel_rfl) Try.func5
    (ChangeSpec.witness6 (enc := enc) (C := Try.checked) false ⟨#[], #[.slice none 0 0, .int .i64 0, .int .i64 0, .int .u64 0, .int .i64 0, .int .i64 0], []⟩ 8 (by kernel_rfl) (by kernel_rfl) (by kernel_rfl) (by kernel_rfl)) ?_
  intro W base args ds gs before hval0 hW hcnd _
  have hval : ∀ (j : Nat) t v, Try.f5.params[j]? = some t → args[j]? = some v → Value.okWide Try.prog W .any base t v := hval0
  have hW' := hW
  obtain ⟨p, q, hA0, hV, rfl, hfz, hnd⟩ := hW
  have hA : DataW.TrodAll enc Try.prog W 0 (fun _ => true) true Try.f5.params.toList args.toList ds p := hA0
  rw [Try.params5] at hA hval
  obtain ⟨v0, vs0, d0, ds0, p0, q0, hv0, rfl, rfl, h0, hr0⟩ := trodAll_cons hA
  obtain ⟨v1, vs1, d1, ds1, p1, q1, hv1, rfl, rfl, h1, hr1⟩ := trodAll_cons hr0
  obtain ⟨v2, vs2, d2, ds2, p2, q2, hv2, rfl, rfl, h2, hr2⟩ := trodAll_cons hr1
  obtain ⟨v3, vs3, d3, ds3, p3, q3, hv3, rfl, rfl, h3, hr3⟩ := trodAll_cons hr2
  obtain ⟨v4, vs4, d4, ds4, p4, q4, hv4, rfl, rfl, h4, hr4⟩ := trodAll_cons hr3
  obtain ⟨v5, vs5, d5, ds5, p5, q5, hv5, rfl, rfl, h5, hr5⟩ := trodAll_cons hr4
  obtain ⟨rfl, rfl, rfl⟩ := trodAll_nil hr5
  subst hv1
  subst hv2
  subst hv3
  subst hv4
  subst hv5
  have hargs : args = #[v0, v1, v2, v3, v4, v5] := by have := congrArg List.toArray hv0; simpa using this
  subst hargs
  clear hv0
  obtain ⟨rfl, rfl⟩ := trodVars_none hV
  obtain ⟨q, len, cap, xs, rfl, hl, hlc, hcm, hq, hcell, hx⟩ := Sx.open_nums Try.underlying22 Try.underlying5 cells5 (hval 0 22 v0 rfl rfl) h0
  obtain ⟨n1, rfl, rfl, rfl, w1⟩ := open_int Try.underlying3 (hval 1 3 v1 rfl rfl) h1
  obtain ⟨n2, rfl, rfl, rfl, w2⟩ := open_int Try.underlying3 (hval 2 3 v2 rfl rfl) h2
  obtain ⟨n3, rfl, rfl, rfl, w3⟩ := open_int Try.underlying23 (hval 3 23 v3 rfl rfl) h3
  obtain ⟨n4, rfl, rfl, rfl, w4⟩ := open_int Try.underlying3 (hval 4 3 v4 rfl rfl) h4
  obtain ⟨n5, rfl, rfl, rfl, w5⟩ := open_int Try.underlying3 (hval 5 3 v5 rfl rfl) h5
  have h := Sx.sound_nums (W := W) (k := .u8) (q := q) (rest := [.int .i64 n1, .int .i64 n2, .int .u64 n3, .int .i64 n4, .int .i64 n5]) s5 hl hq hcell ⟨_, _, _, _, _, _, _, _, rfl, rfl, hl, hlc, (fun x hx2 => Sx.wf_u8 (hx x hx2)), Sx.wf_i64 w1, Sx.wf_i64 w2, (Sx.wf_u64 w3).1, (Sx.wf_u64 w3).2, Sx.wf_i64 w4, Sx.wf_i64 w5, rfl⟩ (by simp only [Sx.okL, Sx.SVal.ok, Sx.okCs, Sx.Chunk.ok, Sx.PlanV.cs, and_true]; try trivial)
  simp only [Sx.concL, Sx.SVal.conc, Sx.concCs, Sx.Chunk.conc, List.append_nil] at h ⊢
  refine h.mono fun e W' ⟨he, hw⟩ => ?_
  subst he
  exact ⟨_, rfl, Sx.law_post hW' rfl hw Try.laidOut f5_read rfl f5_res Try.underlying4⟩
theorem f5_named : Try.checked.prog.funcNamed Rows.bitsBesideRow.func = some 5 := by kernel_rfl
theorem f5_inst : Try.f5.isInstance Try.checked.prog Rows.bitsBesideRow.origin Rows.bitsBesideRow.targs := (of_decide_eq_true (by kernel_rfl))
theorem f5_wrap : Try.f5.isWrapper Try.checked.prog Rows.bitsBesideRow.wrapper Rows.bitsBesideRow.mainSum := (by unfold Func.isWrapper; first | (rw [if_pos (by decide +kernel)]; kernel_rfl) | (rw [if_neg (by decide +kernel)]; exact ⟨rfl, rfl⟩))
/-- What is put at one place is got there, and what stands at bits beside is not changed: for every row of bytes, all places, all counts and every number. No condition. -/
theorem bitsBeside_holds : Rows.BitsBesideSaid :=
  OpenClaim.holds_of_wide 5 Try.f5 rfl rfl rfl rfl rfl rfl rfl ⟨rfl, rfl, rfl, rfl, rfl⟩ rfl rfl rfl rfl rfl f5_named Try.func5 f5_closed
    f5_inst f5_wrap
    (fun os started H enc _ => bitsBeside_lifted os started H enc)
end Go.Proofs.Ytlmcdbgcbmjilaa
