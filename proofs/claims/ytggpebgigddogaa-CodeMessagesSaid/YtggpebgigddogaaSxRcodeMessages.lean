/- Two parts of the proof. -/
import Derived.Test.YtggpebgigddogaaSxRowA
import Derived.Test.YtggpebgigddogaaSxLCodeMess
set_option linter.unusedVariables false
set_option linter.unusedSimpArgs false
namespace Go.Proofs.Ytggpebgigddogaa
theorem f9_lifted : (Rows.codeMessagesRow.lifted == Try.prog.liftsFinal) = true := by rw [prog_lifts]; rfl
theorem f9_make : (Try.prog.make == some Rows.codeMessagesRow.make) = true := by rw [prog_make]; rfl
set_option maxHeartbeats 4000000 in
theorem f9_closed' : joinedFacts Try.prog 9 Try.f9 Rows.codeMessagesSpec Rows.codeMessagesRow = true := by
  simp only [joinedFacts, Bool.and_eq_true]
  repeat' apply And.intro
  all_goals first | (with_reducible exact prog_mayEnter) | (with_reducible exact f9_lifted) | (with_reducible exact f9_make) | (as_aux_lemma => kernel_rfl)
theorem f9_closed : joinedFacts Try.checked.prog 9 Try.f9 Rows.codeMessagesSpec Rows.codeMessagesRow = true := f9_closed'
end Go.Proofs.Ytggpebgigddogaa

namespace Go.Proofs.Ytggpebgigddogaa
open Go.ChangeShapes Go.WideShapes Go.ChangeAt Go.RowKit Go.Sx
theorem f9_read : (Try.f9.params.toList.all fun t => Try.prog.readableRec t && decide (t < Try.prog.types.size)) = true := by kernel_rfl
theorem f9_res : Try.f9.resultTypes = #[4] := by kernel_rfl
set_option maxRecDepth 100000 in
theorem codeMessages_lifted (os : Os) (started : os.Started) (H : Type) (enc : TypeId × Value → H) :
    ReturnsInHanded {} Try.checked os 9 .any (Rows.codeMessagesSpec.pre6 enc Try.prog Try.f9 Rows.codeMessagesRow.domain false) (Rows.codeMessagesSpec.post enc Try.prog Try.f9 false true false false) := by
  refine returnsInHanded_of_change (C := Try.checked) Try.own started (by kernel_rfl) Try.func9
    (ChangeSpec.witness6 (enc := enc) (C := Try.checked) false ⟨#[], #[.int .i64 0, .int .i64 0, .int .u64 0, .int .u64 0, .int .i64 0, .int .i64 0, .agg #[.int .u8 0, .int .u8 0, .int .u8 0, .int .u8 0, .int .u8 0, .int .u8 0, .int .u8 0, .int .u8 0, .int .u8 0, .int .u8 0, .int .u8 0, .int .u8 0, .int .u8 0, .int .u8 0, .int .u8 0, .int .u8 0, .int .u8 0, .int .u8 0, .int .u8 0, .int .u8 0, .int .u8 0, .int .u8 0, .int .u8 0, .int .u8 0, .int .u8 0, .int .u8 0, .int .u8 0, .int .u8 0, .int .u8 0, .int .u8 0, .int .u8 0, .int .u8 0], .agg #[.int .u8 0, .int .u8 0, .int .u8 0, .int .u8 0, .int .u8 0, .int .u8 0, .int .u8 0, .int .u8 0, .int .u8 0, .int .u8 0, .int .u8 0, .int .u8 0, .int .u8 0, .int .u8 0, .int .u8 0, .int .u8 0, .int .u8 0, .int .u8 0, .int .u8 0, .int .u8 0, .int .u8 0, .int .u8 0, .int .u8 0, .int .u8 0, .int .u8 0, .int .u8 0, .int .u8 0, .int .u8 0, .int .u8 0, .int .u8 0, .int .u8 0, .int .u8 0], .agg #[.int .i64 0, .int .i64 0], .agg #[.int .i64 0, .int .i64 0]], []⟩ 8 (by kernel_rfl) (by kernel_rfl) (by kernel_rfl) (by kernel_rfl)) ?_
  intro W base args ds gs before hval0 hW hcnd _
  have hval : ∀ (j : Nat) t v, Try.f9.params[j]? = some t → args[j]? = some v → Value.okWide Try.prog W .any base t v := hval0
  have hW' := hW
  obtain ⟨p, q, hA0, hV, rfl, hfz, hnd⟩ := hW
  have hA : DataW.TrodAll enc Try.prog W 0 (fun _ => true) true Try.f9.params.toList args.toList ds p := hA0
  rw [Try.params9] at hA hval
  obtain ⟨v0, vs0, d0, ds0, p0, q0, hv0, rfl, rfl, h0, hr0⟩ := trodAll_cons hA
  obtain ⟨v1, vs1, d1, ds1, p1, q1, hv1, rfl, rfl, h1, hr1⟩ := trodAll_cons hr0
  obtain ⟨v2, vs2, d2, ds2, p2, q2, hv2, rfl, rfl, h2, hr2⟩ := trodAll_cons hr1
  obtain ⟨v3, vs3, d3, ds3, p3, q3, hv3, rfl, rfl, h3, hr3⟩ := trodAll_cons hr2
  obtain ⟨v4, vs4, d4, ds4, p4, q4, hv4, rfl, rfl, h4, hr4⟩ := trodAll_cons hr3
  obtain ⟨v5, vs5, d5, ds5, p5, q5, hv5, rfl, rfl, h5, hr5⟩ := trodAll_cons hr4
  obtain ⟨v6, vs6, d6, ds6, p6, q6, hv6, rfl, rfl, h6, hr6⟩ := trodAll_cons hr5
  obtain ⟨v7, vs7, d7, ds7, p7, q7, hv7, rfl, rfl, h7, hr7⟩ := trodAll_cons hr6
  obtain ⟨v8, vs8, d8, ds8, p8, q8, hv8, rfl, rfl, h8, hr8⟩ := trodAll_cons hr7
  obtain ⟨v9, vs9, d9, ds9, p9, q9, hv9, rfl, rfl, h9, hr9⟩ := trodAll_cons hr8
  obtain ⟨rfl, rfl, rfl⟩ := trodAll_nil hr9
  subst hv1
  subst hv2
  subst hv3
  subst hv4
  subst hv5
  subst hv6
  subst hv7
  subst hv8
  subst hv9
  have hargs : args = #[v0, v1, v2, v3, v4, v5, v6, v7, v8, v9] := by have := congrArg List.toArray hv0; simpa using this
  subst hargs
  clear hv0
  obtain ⟨rfl, rfl⟩ := trodVars_none hV
  obtain ⟨n0, rfl, rfl, rfl, w0⟩ := open_int Try.underlying3 (hval 0 3 v0 rfl rfl) h0
  obtain ⟨n1, rfl, rfl, rfl, w1⟩ := open_int Try.underlying3 (hval 1 3 v1 rfl rfl) h1
  obtain ⟨n2, rfl, rfl, rfl, w2⟩ := open_int Try.underlying22 (hval 2 22 v2 rfl rfl) h2
  obtain ⟨n3, rfl, rfl, rfl, w3⟩ := open_int Try.underlying22 (hval 3 22 v3 rfl rfl) h3
  obtain ⟨n4, rfl, rfl, rfl, w4⟩ := open_int Try.underlying3 (hval 4 3 v4 rfl rfl) h4
  obtain ⟨n5, rfl, rfl, rfl, w5⟩ := open_int Try.underlying3 (hval 5 3 v5 rfl rfl) h5
  obtain ⟨cs6, rfl, k6⟩ := Sx.open_cells kinds_Lu8_32 cells_Lu8_32 key_Lu8_32 agg_Lu8_32 (hval 6 44 v6 rfl rfl) h6
  obtain ⟨x6, rfl, w6⟩ := open_Lu8_32 (fun _ => none) k6
  obtain ⟨cs7, rfl, k7⟩ := Sx.open_cells kinds_Lu8_32 cells_Lu8_32 key_Lu8_32 agg_Lu8_32 (hval 7 44 v7 rfl rfl) h7
  obtain ⟨x7, rfl, w7⟩ := open_Lu8_32 (fun _ => none) k7
  obtain ⟨cs8, rfl, k8⟩ := Sx.open_cells kinds_Item cells_Item key_Item agg_Item (hval 8 67 v8 rfl rfl) h8
  obtain ⟨x8, rfl, w8⟩ := open_Item (fun _ => none) k8
  obtain ⟨cs9, rfl, k9⟩ := Sx.open_cells kinds_Item cells_Item key_Item agg_Item (hval 9 67 v9 rfl rfl) h9
  obtain ⟨x9, rfl, w9⟩ := open_Item (fun _ => none) k9
  have hP : PcodeMessages [.int .i64 n0, .int .i64 n1, .int .u64 n2, .int .u64 n3, .int .i64 n4, .int .i64 n5, .agg [.ints .u8 32 x6], .agg [.ints .u8 32 x7], .agg (Sx.ItemV.cs x8), .agg (Sx.ItemV.cs x9)] = some ((I64 n0 ∧ I64 n1 ∧ (0 ≤ n2 ∧ n2 < 2 ^ 64) ∧ (0 ≤ n3 ∧ n3 < 2 ^ 64) ∧ I64 n4 ∧ I64 n5 ∧ LineOk x6 ∧ LineOk x7 ∧ ItemV.Wf x8 ∧ ItemV.Wf x9), .bool true) := by kernel_rfl
  have h := Sx.sound_plain (W := W) (args := [.int .i64 n0, .int .i64 n1, .int .u64 n2, .int .u64 n3, .int .i64 n4, .int .i64 n5, .agg [.ints .u8 32 x6], .agg [.ints .u8 32 x7], .agg (Sx.ItemV.cs x8), .agg (Sx.ItemV.cs x9)]) scodeMessages (Sx.pureS_mk hP ⟨Sx.wf_i64 w0, Sx.wf_i64 w1, Sx.wf_u64 w2, Sx.wf_u64 w3, Sx.wf_i64 w4, Sx.wf_i64 w5, w6, w7, w8, w9⟩ rfl) (Sx.plainL_ok (by kernel_rfl)).1
  simp only [Sx.concL, Sx.SVal.conc, Sx.concCs, Sx.Chunk.conc, List.append_nil] at h ⊢
  refine h.mono fun e W' ⟨he, hw⟩ => ?_
  subst he
  exact ⟨_, rfl, Sx.law_post hW' rfl hw Try.laidOut f9_read rfl f9_res Try.underlying4⟩
theorem f9_named : Try.checked.prog.funcNamed Rows.codeMessagesRow.func = some 9 := by kernel_rfl
theorem f9_inst : Try.f9.isInstance Try.checked.prog Rows.codeMessagesRow.origin Rows.codeMessagesRow.targs := (of_decide_eq_true (by kernel_rfl))
theorem f9_wrap : Try.f9.isWrapper Try.checked.prog Rows.codeMessagesRow.wrapper Rows.codeMessagesRow.mainSum := (by unfold Func.isWrapper; first | (rw [if_pos (by decide +kernel)]; kernel_rfl) | (rw [if_neg (by decide +kernel)]; exact ⟨rfl, rfl⟩))
/-- The messages of any line, and of any item, are told exactly, and those of two lines, or of two items, or of one of each, are one only if all in them that fits is: for any lines and items. No condition. -/
theorem codeMessages_holds : Rows.CodeMessagesSaid :=
  OpenClaim.holds_of_wide 9 Try.f9 rfl rfl rfl rfl rfl rfl rfl ⟨rfl, rfl, rfl, rfl, rfl⟩ rfl rfl rfl rfl rfl f9_named Try.func9 f9_closed
    f9_inst f9_wrap
    (fun os started H enc _ => codeMessages_lifted os started H enc)
end Go.Proofs.Ytggpebgigddogaa
