/- Two parts of the proof. -/
import Derived.Test.YtefmjmghkedciaaSxRowA
import Derived.Test.YtefmjmghkedciaaSxLKeys
set_option linter.unusedVariables false
set_option linter.unusedSimpArgs false
namespace Go.Proofs.Ytefmjmghkedciaa
theorem f9_lifted : (Rows.aesKeysRow.lifted == Try.prog.liftsFinal) = true := by rw [prog_lifts]; rfl
theorem f9_make : (Try.prog.make == some Rows.aesKeysRow.make) = true := by rw [prog_make]; rfl
set_option maxHeartbeats 4000000 in
theorem f9_closed' : joinedFacts Try.prog 9 Try.f9 Rows.aesKeysSpec Rows.aesKeysRow = true := by
  simp only [joinedFacts, Bool.and_eq_true]
  repeat' apply And.intro
  all_goals first | (with_reducible exact prog_mayEnter) | (with_reducible exact f9_lifted) | (with_reducible exact f9_make) | (as_aux_lemma => kernel_rfl)
theorem f9_closed : joinedFacts Try.checked.prog 9 Try.f9 Rows.aesKeysSpec Rows.aesKeysRow = true := f9_closed'
end Go.Proofs.Ytefmjmghkedciaa

namespace Go.Proofs.Ytefmjmghkedciaa
open Go.ChangeShapes Go.WideShapes Go.ChangeAt Go.RowKit Go.Sx
theorem f9_read : (Try.f9.params.toList.all fun t => Try.prog.readableRec t && decide (t < Try.prog.types.size)) = true := by kernel_rfl
theorem f9_res : Try.f9.resultTypes = #[4] := by kernel_rfl
set_option maxRecDepth 100000 in
theorem aesKeys_lifted (os : Os) (started : os.Started) (H : Type) (enc : TypeId × Value -> H) :
    ReturnsInHanded {} Try.checked os 9 .any (Rows.aesKeysSpec.pre6 enc Try.prog Try.f9 Rows.aesKeysRow.domain false) (Rows.aesKeysSpec.post enc Try.prog Try.f9 false true false false) := by
  refine returnsInHanded_of_change (C := Try.checked) Try.own started (by kernel_rfl) Try.func9
    (ChangeSpec.witness6 (enc := enc) (C := Try.checked) false ⟨#[], #[.agg #[.int .u8 0, .int .u8 0, .int .u8 0, .int .u8 0, .int .u8 0, .int .u8 0, .int .u8 0, .int .u8 0, .int .u8 0, .int .u8 0, .int .u8 0, .int .u8 0, .int .u8 0, .int .u8 0, .int .u8 0, .int .u8 0], .agg #[.int .u8 0, .int .u8 0, .int .u8 0, .int .u8 0, .int .u8 0, .int .u8 0, .int .u8 0, .int .u8 0, .int .u8 0, .int .u8 0, .int .u8 0, .int .u8 0, .int .u8 0, .int .u8 0, .int .u8 0, .int .u8 0]], []⟩ 8 (by kernel_rfl) (by kernel_rfl) (by kernel_rfl) (by kernel_rfl)) ?_
  intro W base args ds gs before hval0 hW hcnd _
  have hval : ∀ (j : Nat) t v, Try.f9.params[j]? = some t -> args[j]? = some v -> Value.okWide Try.prog W .any base t v := hval0
  have hW' := hW
  obtain ⟨p, q, hA0, hV, rfl, hfz, hnd⟩ := hW
  have hA : DataW.TrodAll enc Try.prog W 0 (fun _ => true) true Try.f9.params.toList args.toList ds p := hA0
  rw [Try.params9] at hA hval
  obtain ⟨v0, vs0, d0, ds0, p0, q0, hv0, rfl, rfl, h0, hr0⟩ := trodAll_cons hA
  obtain ⟨v1, vs1, d1, ds1, p1, q1, hv1, rfl, rfl, h1, hr1⟩ := trodAll_cons hr0
  obtain ⟨rfl, rfl, rfl⟩ := trodAll_nil hr1
  subst hv1
  have hargs : args = #[v0, v1] := by have := congrArg List.toArray hv0; simpa using this
  subst hargs
  clear hv0
  obtain ⟨rfl, rfl⟩ := trodVars_none hV
  obtain ⟨cs0, rfl, k0⟩ := Sx.open_cells kinds_Lu8_16 cells_Lu8_16 key_Lu8_16 agg_Lu8_16 (hval 0 38 v0 rfl rfl) h0
  obtain ⟨x0, rfl, w0⟩ := open_Lu8_16 (fun _ => none) k0
  obtain ⟨cs1, rfl, k1⟩ := Sx.open_cells kinds_Lu8_16 cells_Lu8_16 key_Lu8_16 agg_Lu8_16 (hval 1 38 v1 rfl rfl) h1
  obtain ⟨x1, rfl, w1⟩ := open_Lu8_16 (fun _ => none) k1
  have hP : PaesKeys [.agg [.ints .u8 16 x0], .agg [.ints .u8 16 x1]] = some ((BlkOk x0 /\ BlkOk x1), .bool true) := by kernel_rfl
  have h := Sx.sound_plain (W := W) (args := [.agg [.ints .u8 16 x0], .agg [.ints .u8 16 x1]]) saesKeys (Sx.pureS_mk hP ⟨w0, w1⟩ rfl) (Sx.plainL_ok (by kernel_rfl)).1
  simp only [Sx.concL, Sx.SVal.conc, Sx.concCs, Sx.Chunk.conc, List.append_nil] at h ⊢
  refine h.mono fun e W' ⟨he, hw⟩ => ?_
  subst he
  exact ⟨_, rfl, Sx.law_post hW' rfl hw Try.laidOut f9_read rfl f9_res Try.underlying4⟩
theorem f9_named : Try.checked.prog.funcNamed Rows.aesKeysRow.func = some 9 := by kernel_rfl
theorem f9_inst : Try.f9.isInstance Try.checked.prog Rows.aesKeysRow.origin Rows.aesKeysRow.targs := (of_decide_eq_true (by kernel_rfl))
theorem f9_wrap : Try.f9.isWrapper Try.checked.prog Rows.aesKeysRow.wrapper Rows.aesKeysRow.mainSum := (by unfold Func.isWrapper; first | (rw [if_pos (by decide +kernel)]; kernel_rfl) | (rw [if_neg (by decide +kernel)]; exact ⟨rfl, rfl⟩))
theorem aesKeys_holds : Rows.AesKeysSaid :=
  OpenClaim.holds_of_wide 9 Try.f9 rfl rfl rfl rfl rfl rfl rfl ⟨rfl, rfl, rfl, rfl, rfl⟩ rfl rfl rfl rfl rfl f9_named Try.func9 f9_closed
    f9_inst f9_wrap
    (fun os started H enc _ => aesKeys_lifted os started H enc)
end Go.Proofs.Ytefmjmghkedciaa
