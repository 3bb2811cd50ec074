/- The law BitsSizes is true for every row of bytes, every number and every count. No condition. -/
import Derived.Test.YtlmcdbgcbmjilaaSxT9a
import Derived.Test.YtlmcdbgcbmjilaaSxT9f
namespace Go.Proofs.Ytlmcdbgcbmjilaa
open Go.ChangeShapes Go.WideShapes Go.ChangeAt Go.RowKit
theorem f4_read : (Try.f4.params.toList.all fun t => Try.prog.readableRec t && decide (t < Try.prog.types.size)) = true := by kernel_rfl
theorem f4_res : Try.f4.resultTypes = #[4] := by kernel_rfl
theorem cells5 : Try.prog.cellsOf 5 = 1 := by kernel_rfl
set_option maxRecDepth 100000 in
theorem bitsSizes_lifted (os : Os) (started : os.Started) (H : Type) (enc : TypeId × Value → H) :
    ReturnsInHanded {} Try.checked os 4 .any (Rows.bitsSizesSpec.pre6 enc Try.prog Try.f4 Rows.bitsSizesRow.domain false) (Rows.bitsSizesSpec.post enc Try.prog Try.f4 false true false false) := by
  refine returnsInHanded_of_change (C := Try.checked) Try.own started (by kernel_rfl) Try.func4
    (ChangeSpec.witness6 (enc := enc) (C := Try.checked) false ⟨#[], #[.slice none 0 0, .int .u64 0, .int .i64 0], []⟩ 8 (by kernel_rfl) (by kernel_rfl) (by kernel_rfl) (by kernel_rfl)) ?_
  intro W base args ds gs before hval0 hW hcnd _
  have hval : ∀ (j : Nat) t v, Try.f4.params[j]? = some t → args[j]? = some v → Value.okWide Try.prog W .any base t v := hval0
  have hW' := hW
  obtain ⟨p, q, hA0, hV, rfl, hfz, hnd⟩ := hW
  have hA : DataW.TrodAll enc Try.prog W 0 (fun _ => true) true Try.f4.params.toList args.toList ds p := hA0
  rw [Try.params4] at hA hval
  obtain ⟨v0, v1, v2, d0, d1, d2, p0, p1, p2, rfl, rfl, rfl, h0, h1, h2⟩ := trodAll_three hA
  obtain ⟨rfl, rfl⟩ := trodVars_none hV
  obtain ⟨q, len, cap, xs, rfl, hl, hlc, hcm, hq, hcell, hx⟩ := Sx.open_nums Try.underlying22 Try.underlying5 cells5 (hval 0 22 v0 rfl rfl) h0
  obtain ⟨v, rfl, rfl, rfl, wv⟩ := open_int Try.underlying23 (hval 1 23 v1 rfl rfl) h1
  obtain ⟨n, rfl, rfl, rfl, wn⟩ := open_int Try.underlying3 (hval 2 3 v2 rfl rfl) h2
  refine (law3_calls s4 hl hlc hq hcell hx wv wn).mono fun e W' ⟨he, hw⟩ => ?_
  subst he
  exact ⟨_, rfl, Sx.law_post hW' rfl hw Try.laidOut f4_read rfl f4_res Try.underlying4⟩

theorem f4_named : Try.checked.prog.funcNamed Rows.bitsSizesRow.func = some 4 := by kernel_rfl
theorem f4_inst : Try.f4.isInstance Try.checked.prog Rows.bitsSizesRow.origin Rows.bitsSizesRow.targs := (of_decide_eq_true (by kernel_rfl))
theorem f4_wrap : Try.f4.isWrapper Try.checked.prog Rows.bitsSizesRow.wrapper Rows.bitsSizesRow.mainSum := (by unfold Func.isWrapper; first | (rw [if_pos (by decide +kernel)]; kernel_rfl) | (rw [if_neg (by decide +kernel)]; exact ⟨rfl, rfl⟩))
/-- A number put behind bytes leaves these as they are, adds as many bytes as are told, and is read back as far as its bytes reach: for every row of bytes, every number, and every count. No condition. -/
theorem bitsSizes_holds : Rows.BitsSizesSaid :=
  OpenClaim.holds_of_wide 4 Try.f4 rfl rfl rfl rfl rfl rfl rfl ⟨rfl, rfl, rfl, rfl, rfl⟩ rfl rfl rfl rfl rfl f4_named Try.func4 f4_closed
    f4_inst f4_wrap
    (fun os started H enc _ => bitsSizes_lifted os started H enc)
end Go.Proofs.Ytlmcdbgcbmjilaa
