/- A load changes nothing, and tells what was stored; a swap changes only what it wants; what is added is taken away again; no result is above its bytes: for every line. No condition. -/
import Derived.Test.YtlmcdbgcbmjilaaSxWordL
import Derived.Test.YtlmcdbgcbmjilaaSxFwordPlain
namespace Go.Proofs.Ytlmcdbgcbmjilaa
open Go.ChangeShapes Go.WideShapes Go.ChangeAt Go.RowKit Go.Sx
theorem f9_read : (Try.f9.params.toList.all fun t => Try.prog.readableRec t && decide (t < Try.prog.types.size)) = true := by kernel_rfl
theorem f9_res : Try.f9.resultTypes = #[4] := by kernel_rfl
set_option maxRecDepth 100000 in
theorem wordPlain_lifted (os : Os) (started : os.Started) (H : Type) (enc : TypeId × Value → H) :
    ReturnsInHanded {} Try.checked os 9 .any (Rows.wordPlainSpec.pre6 enc Try.prog Try.f9 Rows.wordPlainRow.domain false) (Rows.wordPlainSpec.post enc Try.prog Try.f9 false true false false) := by
  refine returnsInHanded_of_change (C := Try.checked) Try.own started (by kernel_rfl) Try.func9
    (ChangeSpec.witness6 (enc := enc) (C := Try.checked) false ⟨#[], #[.int .i64 0, .int .i64 0, .int .u64 0, .int .u64 0, .agg #[.int .u8 0, .int .u8 0, .int .u8 0, .int .u8 0, .int .u8 0, .int .u8 0, .int .u8 0, .int .u8 0, .int .u8 0, .int .u8 0, .int .u8 0, .int .u8 0, .int .u8 0, .int .u8 0, .int .u8 0, .int .u8 0, .int .u8 0, .int .u8 0, .int .u8 0, .int .u8 0, .int .u8 0, .int .u8 0, .int .u8 0, .int .u8 0, .int .u8 0, .int .u8 0, .int .u8 0, .int .u8 0, .int .u8 0, .int .u8 0, .int .u8 0, .int .u8 0]], []⟩ 8 (by kernel_rfl) (by kernel_rfl) (by kernel_rfl) (by kernel_rfl)) ?_
  intro W base args ds gs before hval0 hW hcnd _
  have hval : ∀ (j : Nat) t v, Try.f9.params[j]? = some t → args[j]? = some v → Value.okWide Try.prog W .any base t v := hval0
  have hW' := hW
  obtain ⟨p, q, hA0, hV, rfl, hfz, hnd⟩ := hW
  have hA : DataW.TrodAll enc Try.prog W 0 (fun _ => true) true Try.f9.params.toList args.toList ds p := hA0
  rw [Try.params9] at hA hval
  obtain ⟨v0, vs0, d0, ds0, p0, q0, hv0, rfl, rfl, h0, hr0⟩ := trodAll_cons hA
  obtain ⟨v1, vs1, d1, ds1, p1, q1, hv1, rfl, rfl, h1, hr1⟩ := trodAll_cons hr0
  obtain ⟨v2, vs2, d2, ds2, p2, q2, hv2, rfl, rfl, h2, hr2⟩ := trodAll_cons hr1
  obtain ⟨v3, vs3, d3, ds3, p3, q3, hv3, rfl, rfl, h3, hr3⟩ := trodAll_cons hr2
  obtain ⟨v4, vs4, d4, ds4, p4, q4, hv4, rfl, rfl, h4, hr4⟩ := trodAll_cons hr3
  obtain ⟨rfl, rfl, rfl⟩ := trodAll_nil hr4
  subst hv1
  subst hv2
  subst hv3
  subst hv4
  have hargs : args = #[v0, v1, v2, v3, v4] := by have := congrArg List.toArray hv0; simpa using this
  subst hargs
  clear hv0
  obtain ⟨rfl, rfl⟩ := trodVars_none hV
  obtain ⟨n0, rfl, rfl, rfl, w0⟩ := open_int Try.underlying3 (hval 0 3 v0 rfl rfl) h0
  obtain ⟨n1, rfl, rfl, rfl, w1⟩ := open_int Try.underlying3 (hval 1 3 v1 rfl rfl) h1
  obtain ⟨n2, rfl, rfl, rfl, w2⟩ := open_int Try.underlying23 (hval 2 23 v2 rfl rfl) h2
  obtain ⟨n3, rfl, rfl, rfl, w3⟩ := open_int Try.underlying23 (hval 3 23 v3 rfl rfl) h3
  obtain ⟨cs4, rfl, k4⟩ := Sx.open_cells kinds_Lu8_32 cells_Lu8_32 key_Lu8_32 agg_Lu8_32 (hval 4 49 v4 rfl rfl) h4
  obtain ⟨x4, rfl, w4⟩ := open_Lu8_32 (fun _ => none) k4
  have hP : PwordPlain [.int .i64 n0, .int .i64 n1, .int .u64 n2, .int .u64 n3, .agg [.ints .u8 32 x4]] = some ((I64 n0 ∧ I64 n1 ∧ (0 ≤ n2 ∧ n2 < 2 ^ 64) ∧ (0 ≤ n3 ∧ n3 < 2 ^ 64) ∧ LineOk x4), .bool true) := by kernel_rfl
  have h := Sx.sound_plain (W := W) (args := [.int .i64 n0, .int .i64 n1, .int .u64 n2, .int .u64 n3, .agg [.ints .u8 32 x4]]) swordPlain (Sx.pureS_mk hP ⟨Sx.wf_i64 w0, Sx.wf_i64 w1, Sx.wf_u64 w2, Sx.wf_u64 w3, w4⟩ rfl) (Sx.plainL_ok (by kernel_rfl)).1
  simp only [Sx.concL, Sx.SVal.conc, Sx.concCs, Sx.Chunk.conc, List.append_nil] at h ⊢
  refine h.mono fun e W' ⟨he, hw⟩ => ?_
  subst he
  exact ⟨_, rfl, Sx.law_post hW' rfl hw Try.laidOut f9_read rfl f9_res Try.underlying4⟩
theorem f9_named : Try.checked.prog.funcNamed Rows.wordPlainRow.func = some 9 := by kernel_rfl
theorem f9_inst : Try.f9.isInstance Try.checked.prog Rows.wordPlainRow.origin Rows.wordPlainRow.targs := (of_decide_eq_true (by kernel_rfl))
theorem f9_wrap : Try.f9.isWrapper Try.checked.prog Rows.wordPlainRow.wrapper Rows.wordPlainRow.mainSum := (by unfold Func.isWrapper; first | (rw [if_pos (by decide +kernel)]; kernel_rfl) | (rw [if_neg (by decide +kernel)]; exact ⟨rfl, rfl⟩))
/-- A load changes nothing, and tells what was stored; a swap changes only what it wants; what is added is taken away again; no result is above its bytes: for every line. No condition. -/
theorem wordPlain_holds : Rows.WordPlainSaid :=
  OpenClaim.holds_of_wide 9 Try.f9 rfl rfl rfl rfl rfl rfl rfl ⟨rfl, rfl, rfl, rfl, rfl⟩ rfl rfl rfl rfl rfl f9_named Try.func9 f9_closed
    f9_inst f9_wrap
    (fun os started H enc _ => wordPlain_lifted os started H enc)
end Go.Proofs.Ytlmcdbgcbmjilaa
