/- Two parts of the proof. -/
import Derived.Test.YtefmjmghkedciaaSxRowA
import Derived.Test.YtefmjmghkedciaaSxLUnlike
set_option linter.unusedVariables false
set_option linter.unusedSimpArgs false
namespace Go.Proofs.Ytefmjmghkedciaa
theorem f7_lifted : (Rows.aesUnlikeRow.lifted == Try.prog.liftsFinal) = true := by rw [prog_lifts]; rfl
theorem f7_make : (Try.prog.make == some Rows.aesUnlikeRow.make) = true := by rw [prog_make]; rfl
set_option maxHeartbeats 4000000 in
theorem f7_closed' : joinedFacts Try.prog 7 Try.f7 Rows.aesUnlikeSpec Rows.aesUnlikeRow = true := by
  simp only [joinedFacts, Bool.and_eq_true]
  repeat' apply And.intro
  all_goals first | (with_reducible exact prog_mayEnter) | (with_reducible exact f7_lifted) | (with_reducible exact f7_make) | (as_aux_lemma => kernel_rfl)
theorem f7_closed : joinedFacts Try.checked.prog 7 Try.f7 Rows.aesUnlikeSpec Rows.aesUnlikeRow = true := f7_closed'
end Go.Proofs.Ytefmjmghkedciaa

namespace Go.Proofs.Ytefmjmghkedciaa
open Go.ChangeShapes Go.WideShapes Go.ChangeAt Go.RowKit Go.Sx
theorem f7_read : (Try.f7.params.toList.all fun t => Try.prog.readableRec t && decide (t < Try.prog.types.size)) = true := by kernel_rfl
theorem f7_res : Try.f7.resultTypes = #[4] := by kernel_rfl
set_option maxRecDepth 100000 in
theorem aesUnlike_lifted (os : Os) (started : os.Started) (H : Type) (enc : TypeId × Value → H) :
    ReturnsInHanded {} Try.checked os 7 .any (Rows.aesUnlikeSpec.pre6 enc Try.prog Try.f7 Rows.aesUnlikeRow.domain false) (Rows.aesUnlikeSpec.post enc Try.prog Try.f7 false true false false) := by
  refine returnsInHanded_of_change (C := Try.checked) Try.own started (by kernel_rfl) Try.func7
    (ChangeSpec.witness6 (enc := enc) (C := Try.checked) false ⟨#[], #[.agg #[.int .u8 0, .int .u8 0, .int .u8 0, .int .u8 0, .int .u8 0, .int .u8 0, .int .u8 0, .int .u8 0, .int .u8 0, .int .u8 0, .int .u8 0, .int .u8 0, .int .u8 0, .int .u8 0, .int .u8 0, .int .u8 0], .agg #[.int .u8 0, .int .u8 0, .int .u8 0, .int .u8 0, .int .u8 0, .int .u8 0, .int .u8 0, .int .u8 0, .int .u8 0, .int .u8 0, .int .u8 0, .int .u8 0, .int .u8 0, .int .u8 0, .int .u8 0, .int .u8 0], .agg #[.int .u8 0, .int .u8 0, .int .u8 0, .int .u8 0, .int .u8 0, .int .u8 0, .int .u8 0, .int .u8 0, .int .u8 0, .int .u8 0, .int .u8 0, .int .u8 0, .int .u8 0, .int .u8 0, .int .u8 0, .int .u8 0]], []⟩ 8 (by kernel_rfl) (by kernel_rfl) (by kernel_rfl) (by kernel_rfl)) ?_
  intro W base args ds gs before hval0 hW hcnd _
  have hval : ∀ (j : Nat) t v, Try.f7.params[j]? = some t → args[j]? = some v → Value.okWide Try.prog W .any base t v := hval0
  have hW' := hW
  obtain ⟨p, q, hA0, hV, rfl, hfz, hnd⟩ := hW
  have hA : DataW.TrodAll enc Try.prog W 0 (fun _ => true) true Try.f7.params.toList args.toList ds p := hA0
  rw [Try.params7] at hA hval
  obtain ⟨v0, vs0, d0, ds0, p0, q0, hv0, rfl, rfl, h0, hr0⟩ := trodAll_cons hA
  obtain ⟨v1, vs1, d1, ds1, p1, q1, hv1, rfl, rfl, h1, hr1⟩ := trodAll_cons hr0
  obtain ⟨v2, vs2, d2, ds2, p2, q2, hv2, rfl, rfl, h2, hr2⟩ := trodAll_cons hr1
  obtain ⟨rfl, rfl, rfl⟩ := trodAll_nil hr2
  subst hv1
  subst hv2
  have hargs : args = #[v0, v1, v2] := by have := congrArg List.toArray hv0; simpa using this
  subst hargs
  clear hv0
  obtain ⟨rfl, rfl⟩ := trodVars_none hV
  obtain ⟨cs0, rfl, k0⟩ := Sx.open_cells kinds_Lu8_16 cells_Lu8_16 key_Lu8_16 agg_Lu8_16 (hval 0 38 v0 rfl rfl) h0
  obtain ⟨x0, rfl, w0⟩ := open_Lu8_16 (fun _ => none) k0
  obtain ⟨cs1, rfl, k1⟩ := Sx.open_cells kinds_Lu8_16 cells_Lu8_16 key_Lu8_16 agg_Lu8_16 (hval 1 38 v1 rfl rfl) h1
  obtain ⟨x1, rfl, w1⟩ := open_Lu8_16 (fun _ => none) k1
  obtain ⟨cs2, rfl, k2⟩ := Sx.open_cells kinds_Lu8_16 cells_Lu8_16 key_Lu8_16 agg_Lu8_16 (hval 2 38 v2 rfl rfl) h2
  obtain ⟨x2, rfl, w2⟩ := open_Lu8_16 (fun _ => none) k2
  have hP : PaesUnlike [.agg [.ints .u8 16 x0], .agg [.ints .u8 16 x1], .agg [.ints .u8 16 x2]] = some ((BlkOk x0 ∧ BlkOk x1 ∧ BlkOk x2), .bool true) := by kernel_rfl
  have h := Sx.sound_plain (W := W) (args := [.agg [.ints .u8 16 x0], .agg [.ints .u8 16 x1], .agg [.ints .u8 16 x2]]) saesUnlike (Sx.pureS_mk hP ⟨w0, w1, w2⟩ rfl) (Sx.plainL_ok (by kernel_rfl)).1
  simp only [Sx.concL, Sx.SVal.conc, Sx.concCs, Sx.Chunk.conc, List.append_nil] at h ⊢
  refine h.mono fun e W' ⟨he, hw⟩ => ?_
  subst he
  exact ⟨_, rfl, Sx.law_post hW' rfl hw Try.laidOut f7_read rfl f7_res Try.underlying4⟩
theorem f7_named : Try.checked.prog.funcNamed Rows.aesUnlikeRow.func = some 7 := by kernel_rfl
theorem f7_inst : Try.f7.isInstance Try.checked.prog Rows.aesUnlikeRow.origin Rows.aesUnlikeRow.targs := (of_decide_eq_true (by kernel_rfl))
theorem f7_wrap : Try.f7.isWrapper Try.checked.prog Rows.aesUnlikeRow.wrapper Rows.aesUnlikeRow.mainSum := (by unfold Func.isWrapper; first | (rw [if_pos (by decide +kernel)]; kernel_rfl) | (rw [if_neg (by decide +kernel)]; exact ⟨rfl, rfl⟩))
/-- Two blocks that are unlike are enciphered to two that are, by one key, and a cipher's answers don't hang on what it enciphered ahead: for any key and blocks. No condition. -/
theorem aesUnlike_holds : Rows.AesUnlikeSaid :=
  OpenClaim.holds_of_wide 7 Try.f7 rfl rfl rfl rfl rfl rfl rfl ⟨rfl, rfl, rfl, rfl, rfl⟩ rfl rfl rfl rfl rfl f7_named Try.func7 f7_closed
    f7_inst f7_wrap
    (fun os started H enc _ => aesUnlike_lifted os started H enc)
end Go.Proofs.Ytefmjmghkedciaa
