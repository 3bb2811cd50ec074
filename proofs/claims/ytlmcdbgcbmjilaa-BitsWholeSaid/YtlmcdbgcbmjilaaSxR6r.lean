/- What any bits are, put where they are, changes nothing; put into noughts and got again it is the same: for every row of bytes, every place and every count. No condition. -/
import Derived.Test.YtlmcdbgcbmjilaaSxT12
import Derived.Test.YtlmcdbgcbmjilaaSxPlanRow
import Derived.Test.YtlmcdbgcbmjilaaSxR6f
namespace Go.Proofs.Ytlmcdbgcbmjilaa
open Go.ChangeShapes Go.WideShapes Go.ChangeAt Go.RowKit
theorem f6_read : (Try.f6.params.toList.all fun t => Try.prog.readableRec t && decide (t < Try.prog.types.size)) = true := by kernel_rfl
theorem f6_res : Try.f6.resultTypes = #[4] := by kernel_rfl
theorem cells5 : Try.prog.cellsOf 5 = 1 := by kernel_rfl
set_option maxRecDepth 100000 in
theorem bitsWhole_lifted (os : Os) (started : os.Started) (H : Type) (enc : TypeId × Value → H) :
    ReturnsInHanded {} Try.checked os 6 .any (Rows.bitsWholeSpec.pre6 enc Try.prog Try.f6 Rows.bitsWholeRow.domain false) (Rows.bitsWholeSpec.post enc Try.prog Try.f6 false true false false) := by
  refine returnsInHanded_of_change (C := Try.checked) Try.own started (by kernel_rfl) Try.func6
    (ChangeSpec.witness6 (enc := enc) (C := Try.checked) false ⟨#[], #[.slice none 0 0, .int .i64 0, .int .i64 0], []⟩ 8 (by kernel_rfl) (by kernel_rfl) (by kernel_rfl) (by kernel_rfl)) ?_
  intro W base args ds gs before hval0 hW hcnd _
  have hval : ∀ (j : Nat) t v, Try.f6.params[j]? = some t → args[j]? = some v → Value.okWide Try.prog W .any base t v := hval0
  have hW' := hW
  obtain ⟨p, q, hA0, hV, rfl, hfz, hnd⟩ := hW
  have hA : DataW.TrodAll enc Try.prog W 0 (fun _ => true) true Try.f6.params.toList args.toList ds p := hA0
  rw [Try.params6] at hA hval
  obtain ⟨v0, vs0, d0, ds0, p0, q0, hv0, rfl, rfl, h0, hr0⟩ := trodAll_cons hA
  obtain ⟨v1, vs1, d1, ds1, p1, q1, hv1, rfl, rfl, h1, hr1⟩ := trodAll_cons hr0
  obtain ⟨v2, vs2, d2, ds2, p2, q2, hv2, rfl, rfl, h2, hr2⟩ := trodAll_cons hr1
  obtain ⟨rfl, rfl, rfl⟩ := trodAll_nil hr2
  subst hv1
  subst hv2
  have hargs : args = #[v0, v1, v2] := by have := congrArg List.toArray hv0; simpa using this
  subst hargs
  clear hv0
  obtain ⟨rfl, rfl⟩ := trodVars_none hV
  obtain ⟨q, len, cap, xs, rfl, hl, hlc, hcm, hq, hcell, hx⟩ := Sx.open_nums Try.underlying22 Try.underlying5 cells5 (hval 0 22 v0 rfl rfl) h0
  obtain ⟨n1, rfl, rfl, rfl, w1⟩ := open_int Try.underlying3 (hval 1 3 v1 rfl rfl) h1
  obtain ⟨n2, rfl, rfl, rfl, w2⟩ := open_int Try.underlying3 (hval 2 3 v2 rfl rfl) h2
  have h := Sx.sound_nums (W := W) (k := .u8) (q := q) (rest := [.int .i64 n1, .int .i64 n2]) s6 hl hq hcell ⟨_, _, _, _, _, rfl, rfl, hl, hlc, (fun x hx2 => Sx.wf_u8 (hx x hx2)), Sx.wf_i64 w1, Sx.wf_i64 w2, rfl⟩ (by simp only [Sx.okL, Sx.SVal.ok, Sx.okCs, Sx.Chunk.ok, Sx.PlanV.cs, and_true]; try trivial)
  simp only [Sx.concL, Sx.SVal.conc, Sx.concCs, Sx.Chunk.conc, List.append_nil] at h ⊢
  refine h.mono fun e W' ⟨he, hw⟩ => ?_
  subst he
  exact ⟨_, rfl, Sx.law_post hW' rfl hw Try.laidOut f6_read rfl f6_res Try.underlying4⟩
theorem f6_named : Try.checked.prog.funcNamed Rows.bitsWholeRow.func = some 6 := by kernel_rfl
theorem f6_inst : Try.f6.isInstance Try.checked.prog Rows.bitsWholeRow.origin Rows.bitsWholeRow.targs := (of_decide_eq_true (by kernel_rfl))
theorem f6_wrap : Try.f6.isWrapper Try.checked.prog Rows.bitsWholeRow.wrapper Rows.bitsWholeRow.mainSum := (by unfold Func.isWrapper; first | (rw [if_pos (by decide +kernel)]; kernel_rfl) | (rw [if_neg (by decide +kernel)]; exact ⟨rfl, rfl⟩))
/-- What any bits are, put where they are, changes nothing; put into noughts and got again it is the same: for every row of bytes, every place and every count. No condition. -/
theorem bitsWhole_holds : Rows.BitsWholeSaid :=
  OpenClaim.holds_of_wide 6 Try.f6 rfl rfl rfl rfl rfl rfl rfl ⟨rfl, rfl, rfl, rfl, rfl⟩ rfl rfl rfl rfl rfl f6_named Try.func6 f6_closed
    f6_inst f6_wrap
    (fun os started H enc _ => bitsWhole_lifted os started H enc)
end Go.Proofs.Ytlmcdbgcbmjilaa
