/- Two parts of the proof. -/
import Derived.Test.YtggpebgigddogaaSxRowA
import Derived.Test.YtggpebgigddogaaSxLCodeNodes
set_option linter.unusedVariables false
set_option linter.unusedSimpArgs false
namespace Go.Proofs.Ytggpebgigddogaa
theorem f11_lifted : (Rows.codeNodesRow.lifted == Try.prog.liftsFinal) = true := by rw [prog_lifts]; rfl
theorem f11_make : (Try.prog.make == some Rows.codeNodesRow.make) = true := by rw [prog_make]; rfl
set_option maxHeartbeats 4000000 in
theorem f11_closed' : joinedFacts Try.prog 11 Try.f11 Rows.codeNodesSpec Rows.codeNodesRow = true := by
  simp only [joinedFacts, Bool.and_eq_true]
  repeat' apply And.intro
  all_goals first | (with_reducible exact prog_mayEnter) | (with_reducible exact f11_lifted) | (with_reducible exact f11_make) | (as_aux_lemma => kernel_rfl)
theorem f11_closed : joinedFacts Try.checked.prog 11 Try.f11 Rows.codeNodesSpec Rows.codeNodesRow = true := f11_closed'
end Go.Proofs.Ytggpebgigddogaa

namespace Go.Proofs.Ytggpebgigddogaa
open Go.ChangeShapes Go.WideShapes Go.ChangeAt Go.RowKit Go.Sx
theorem f11_read : (Try.f11.params.toList.all fun t => Try.prog.readableRec t && decide (t < Try.prog.types.size)) = true := by kernel_rfl
theorem f11_res : Try.f11.resultTypes = #[4] := by kernel_rfl
set_option maxRecDepth 100000 in
theorem codeNodes_lifted (os : Os) (started : os.Started) (H : Type) (enc : TypeId × Value → H) :
    ReturnsInHanded {} Try.checked os 11 .any (Rows.codeNodesSpec.pre6 enc Try.prog Try.f11 Rows.codeNodesRow.domain false) (Rows.codeNodesSpec.post enc Try.prog Try.f11 false true false false) := by
  refine returnsInHanded_of_change (C := Try.checked) Try.own started (by kernel_rfl) Try.func11
    (ChangeSpec.witness6 (enc := enc) (C := Try.checked) false ⟨#[], #[.agg #[.int .u8 0, .int .u8 0, .int .u8 0, .int .u8 0, .int .u8 0, .int .u8 0, .int .u8 0, .int .u8 0, .int .u8 0, .int .u8 0, .int .u8 0, .int .u8 0, .int .u8 0, .int .u8 0, .int .u8 0, .int .u8 0, .int .u8 0, .int .u8 0, .int .u8 0, .int .u8 0, .int .u8 0, .int .u8 0, .int .u8 0, .int .u8 0, .int .u8 0, .int .u8 0, .int .u8 0, .int .u8 0, .int .u8 0, .int .u8 0, .int .u8 0, .int .u8 0], .int .i64 0, .int .i64 0, .int .u64 0], []⟩ 8 (by kernel_rfl) (by kernel_rfl) (by kernel_rfl) (by kernel_rfl)) ?_
  intro W base args ds gs before hval0 hW hcnd _
  have hval : ∀ (j : Nat) t v, Try.f11.params[j]? = some t → args[j]? = some v → Value.okWide Try.prog W .any base t v := hval0
  have hW' := hW
  obtain ⟨p, q, hA0, hV, rfl, hfz, hnd⟩ := hW
  have hA : DataW.TrodAll enc Try.prog W 0 (fun _ => true) true Try.f11.params.toList args.toList ds p := hA0
  rw [Try.params11] at hA hval
  obtain ⟨v0, vs0, d0, ds0, p0, q0, hv0, rfl, rfl, h0, hr0⟩ := trodAll_cons hA
  obtain ⟨v1, vs1, d1, ds1, p1, q1, hv1, rfl, rfl, h1, hr1⟩ := trodAll_cons hr0
  obtain ⟨v2, vs2, d2, ds2, p2, q2, hv2, rfl, rfl, h2, hr2⟩ := trodAll_cons hr1
  obtain ⟨v3, vs3, d3, ds3, p3, q3, hv3, rfl, rfl, h3, hr3⟩ := trodAll_cons hr2
  obtain ⟨rfl, rfl, rfl⟩ := trodAll_nil hr3
  subst hv1
  subst hv2
  subst hv3
  have hargs : args = #[v0, v1, v2, v3] := by have := congrArg List.toArray hv0; simpa using this
  subst hargs
  clear hv0
  obtain ⟨rfl, rfl⟩ := trodVars_none hV
  obtain ⟨cs0, rfl, k0⟩ := Sx.open_cells kinds_Lu8_32 cells_Lu8_32 key_Lu8_32 agg_Lu8_32 (hval 0 44 v0 rfl rfl) h0
  obtain ⟨x0, rfl, w0⟩ := open_Lu8_32 (fun _ => none) k0
  obtain ⟨n1, rfl, rfl, rfl, w1⟩ := open_int Try.underlying3 (hval 1 3 v1 rfl rfl) h1
  obtain ⟨n2, rfl, rfl, rfl, w2⟩ := open_int Try.underlying3 (hval 2 3 v2 rfl rfl) h2
  obtain ⟨n3, rfl, rfl, rfl, w3⟩ := open_int Try.underlying22 (hval 3 22 v3 rfl rfl) h3
  have hP : PcodeNodes [.agg [.ints .u8 32 x0], .int .i64 n1, .int .i64 n2, .int .u64 n3] = some ((LineOk x0 ∧ I64 n1 ∧ I64 n2 ∧ 0 ≤ n3 ∧ n3 < 2 ^ 64), .bool true) := by kernel_rfl
  have h := Sx.sound_plain (W := W) (args := [.agg [.ints .u8 32 x0], .int .i64 n1, .int .i64 n2, .int .u64 n3]) scodeNodes (Sx.pureS_mk hP ⟨w0, Sx.wf_i64 w1, Sx.wf_i64 w2, Sx.wf_u64 w3⟩ rfl) (Sx.plainL_ok (by kernel_rfl)).1
  simp only [Sx.concL, Sx.SVal.conc, Sx.concCs, Sx.Chunk.conc, List.append_nil] at h ⊢
  refine h.mono fun e W' ⟨he, hw⟩ => ?_
  subst he
  exact ⟨_, rfl, Sx.law_post hW' rfl hw Try.laidOut f11_read rfl f11_res Try.underlying4⟩
theorem f11_named : Try.checked.prog.funcNamed Rows.codeNodesRow.func = some 11 := by kernel_rfl
theorem f11_inst : Try.f11.isInstance Try.checked.prog Rows.codeNodesRow.origin Rows.codeNodesRow.targs := (of_decide_eq_true (by kernel_rfl))
theorem f11_wrap : Try.f11.isWrapper Try.checked.prog Rows.codeNodesRow.wrapper Rows.codeNodesRow.mainSum := (by unfold Func.isWrapper; first | (rw [if_pos (by decide +kernel)]; kernel_rfl) | (rw [if_neg (by decide +kernel)]; exact ⟨rfl, rfl⟩))
/-- The tag of any child in a node's bytes, and the bytes with another one, are told exactly, and the others stay: for any bytes, children and tag. No condition. -/
theorem codeNodes_holds : Rows.CodeNodesSaid :=
  OpenClaim.holds_of_wide 11 Try.f11 rfl rfl rfl rfl rfl rfl rfl ⟨rfl, rfl, rfl, rfl, rfl⟩ rfl rfl rfl rfl rfl f11_named Try.func11 f11_closed
    f11_inst f11_wrap
    (fun os started H enc _ => codeNodes_lifted os started H enc)
end Go.Proofs.Ytggpebgigddogaa
