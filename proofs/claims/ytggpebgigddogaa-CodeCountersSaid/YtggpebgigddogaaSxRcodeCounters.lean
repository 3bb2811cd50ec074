/- Two parts of the proof. -/
import Derived.Test.YtggpebgigddogaaSxRowA
import Derived.Test.YtggpebgigddogaaSxLCounters
import Derived.Test.YtggpebgigddogaaSxRow2
set_option linter.unusedVariables false
set_option linter.unusedSimpArgs false
namespace Go.Proofs.Ytggpebgigddogaa
theorem f10_lifted : (Rows.codeCountersRow.lifted == Try.prog.liftsFinal) = true := by rw [prog_lifts]; rfl
theorem f10_make : (Try.prog.make == some Rows.codeCountersRow.make) = true := by rw [prog_make]; rfl
set_option maxHeartbeats 4000000 in
theorem f10_closed' : joinedFacts Try.prog 10 Try.f10 Rows.codeCountersSpec Rows.codeCountersRow = true := by
  simp only [joinedFacts, Bool.and_eq_true]
  repeat' apply And.intro
  all_goals first | (with_reducible exact prog_mayEnter) | (with_reducible exact f10_lifted) | (with_reducible exact f10_make) | (as_aux_lemma => kernel_rfl)
theorem f10_closed : joinedFacts Try.checked.prog 10 Try.f10 Rows.codeCountersSpec Rows.codeCountersRow = true := f10_closed'
end Go.Proofs.Ytggpebgigddogaa

namespace Go.Proofs.Ytggpebgigddogaa
open Go.ChangeShapes Go.WideShapes Go.ChangeAt Go.RowKit Go.Sx
theorem f10_read : (Try.f10.params.toList.all fun t => Try.prog.readableRec t && decide (t < Try.prog.types.size)) = true := by kernel_rfl
theorem f10_res : Try.f10.resultTypes = #[4] := by kernel_rfl
theorem ats31_codeCounters : Sx.atsOf Try.prog 8 31 = some [.int .u64, .sl .i64] := by kernel_rfl
theorem agg31_codeCounters : Sx.aggT Try.prog 31 = true := by kernel_rfl
set_option maxRecDepth 100000 in
theorem codeCounters_lifted (os : Os) (started : os.Started) (H : Type) (enc : TypeId × Value -> H) :
    ReturnsInHanded {} Try.checked os 10 .any (Rows.codeCountersSpec.pre6 enc Try.prog Try.f10 Rows.codeCountersRow.domain false) (Rows.codeCountersSpec.post enc Try.prog Try.f10 false true false false) := by
  refine returnsInHanded_of_change (C := Try.checked) Try.own started (by kernel_rfl) Try.func10
    (ChangeSpec.witness6 (enc := enc) (C := Try.checked) false ⟨#[], #[.agg #[.int .i64 0, .int .i64 0, .int .i64 0, .int .i64 0, .int .i64 0, .int .i64 0, .int .u64 0, .int .i64 0, .int .i64 0, .int .i64 0, .int .i64 0, .int .i64 0, .int .i64 0, .int .i64 0, .int .u8 0, .int .u8 0, .int .u8 0, .int .u8 0, .int .u8 0, .int .u8 0, .int .u8 0, .int .u8 0, .int .u8 0, .int .u8 0, .int .u8 0, .int .u8 0, .int .u8 0, .int .u8 0, .int .u8 0, .int .u8 0, .int .u8 0, .int .u8 0, .int .u8 0, .int .u8 0, .int .u8 0, .int .u8 0, .int .u8 0, .int .u8 0, .int .u8 0, .int .u8 0, .int .u8 0, .int .u8 0, .int .u8 0, .int .u8 0, .int .u8 0, .int .u8 0], .agg #[.int .u64 0, .slice none 0 0], .agg #[.int .u8 0, .int .u8 0, .int .u8 0, .int .u8 0, .int .u8 0, .int .u8 0, .int .u8 0, .int .u8 0, .int .u8 0, .int .u8 0, .int .u8 0, .int .u8 0, .int .u8 0, .int .u8 0, .int .u8 0, .int .u8 0, .int .u8 0, .int .u8 0, .int .u8 0, .int .u8 0, .int .u8 0, .int .u8 0, .int .u8 0, .int .u8 0, .int .u8 0, .int .u8 0, .int .u8 0, .int .u8 0, .int .u8 0, .int .u8 0, .int .u8 0, .int .u8 0]], []⟩ 8 (by kernel_rfl) (by kernel_rfl) (by kernel_rfl) (by kernel_rfl)) ?_
  intro W base args ds gs before hval0 hW hcnd _
  have hval : ∀ (j : Nat) t v, Try.f10.params[j]? = some t -> args[j]? = some v -> Value.okWide Try.prog W .any base t v := hval0
  have hW' := hW
  obtain ⟨p, q, hA0, hV, rfl, hfz, hnd⟩ := hW
  have hA : DataW.TrodAll enc Try.prog W 0 (fun _ => true) true Try.f10.params.toList args.toList ds p := hA0
  rw [Try.params10] at hA hval
  obtain ⟨v0, vs0, d0, ds0, p0, q0, hv0, rfl, rfl, h0, hr0⟩ := trodAll_cons hA
  obtain ⟨v1, vs1, d1, ds1, p1, q1, hv1, rfl, rfl, h1, hr1⟩ := trodAll_cons hr0
  obtain ⟨v2, vs2, d2, ds2, p2, q2, hv2, rfl, rfl, h2, hr2⟩ := trodAll_cons hr1
  obtain ⟨rfl, rfl, rfl⟩ := trodAll_nil hr2
  subst hv1
  subst hv2
  have hargs : args = #[v0, v1, v2] := by have := congrArg List.toArray hv0; simpa using this
  subst hargs
  clear hv0
  obtain ⟨rfl, rfl⟩ := trodVars_none hV
  obtain ⟨cs0, rfl, k0⟩ := Sx.open_cells kinds_Plan cells_Plan key_Plan agg_Plan (hval 0 28 v0 rfl rfl) h0
  obtain ⟨x0, rfl, w0⟩ := open_Plan (fun _ => none) k0
  have sp1 := fun a l c => Sx.value_spot (a := a) (l := l) (c := c) (hval 1 31 v1 rfl rfl)
  have at1 := Sx.ats_open (l := [.int .u64, .sl .i64]) (m := 8) ats31_codeCounters (by kernel_rfl) h1
  obtain ⟨cs1, rfl, ce1⟩ := Sx.agg_open agg31_codeCounters (hval 1 31 v1 rfl rfl)
  rw [ce1] at sp1 at1
  clear ce1
  obtain ⟨_, t1_0, rfl, ⟨n1_0, rfl, w1_0⟩, a1_0⟩ := at1
  obtain ⟨_, t1_1, rfl, ⟨q1_1, l1_1, c1_1, x1_1, rfl, i1_1, o1_1, w1_1⟩, a1_1⟩ := a1_0
  obtain rfl : t1_1 = [] := a1_1
  obtain ⟨r1_1, rfl, g1_1, m1_1, M1_1, e1_1, k1_1⟩ := Sx.row_open o1_1 fun a ha => sp1 a l1_1 c1_1 (by rw [ha]; simp)
  obtain ⟨cs2, rfl, k2⟩ := Sx.open_cells kinds_Lu8_32 cells_Lu8_32 key_Lu8_32 agg_Lu8_32 (hval 2 44 v2 rfl rfl) h2
  obtain ⟨x2, rfl, w2⟩ := open_Lu8_32 (fun _ => none) k2
  have hP : DcodeCounters [.agg (Sx.PlanV.cs x0), .agg [.one (.int .u64 n1_0), .one (.slice ⟨0, 0, 0, 1⟩ l1_1 c1_1)], .agg [.ints .u8 32 x2]] ⟨1, Sx.entsRO 0 [(r1_1, [.ints .i64 l1_1 x1_1])]⟩ = some (l1_1 = l1_1 /\ (PlanV.Wf x0 /\ ((List.length x1_1 = l1_1 /\ l1_1 <= c1_1 /\ ∀ x ∈ x1_1, I64 x) /\ 0 <= n1_0 /\ n1_0 < 2 ^ 64) /\ LineOk x2), fun K => K (.bool true) ⟨1, Sx.entsRO 0 [(r1_1, [.ints .i64 l1_1 x1_1])]⟩) := by kernel_rfl
  have h := Sx.sound_rows (W := W) (args := [.agg (Sx.PlanV.cs x0), .agg [.one (.int .u64 n1_0), .one (.slice ⟨0, 0, 0, 1⟩ l1_1 c1_1)], .agg [.ints .u8 32 x2]]) [(r1_1, [.ints .i64 l1_1 x1_1])] scodeCounters (Sx.gS_mk hP ⟨rfl, w0, ⟨⟨i1_1, m1_1, fun x hx => Sx.wf_i64 (w1_1 x hx)⟩, (Sx.wf_u64 w1_0).1, (Sx.wf_u64 w1_0).2⟩, w2⟩ rfl) (by
    simp only [List.mem_cons, List.not_mem_nil, or_false]
    rintro e rfl
    · exact Sx.row_ints (fun h => (g1_1 h).1) k1_1) (by
    simp only [Sx.okL, Sx.SVal.ok, Sx.okCs, Sx.Chunk.ok, Sx.rhoOf, Sx.PlanV.cs, and_true, true_and, Sx.PlanV.cs]
    exact ⟨by simp, g1_1⟩)
  simp only [Sx.concL, Sx.SVal.conc, Sx.SAddr.conc, Sx.concCs, Sx.Chunk.conc, Sx.rhoOf, List.append_nil, List.getElem?_cons_zero, List.getElem?_cons_succ, Nat.zero_mul, Nat.add_zero, List.cons_append, List.nil_append] at h ⊢
  refine h.mono fun e W' ⟨he, hw⟩ => ?_
  subst he
  exact ⟨_, rfl, Sx.law_post hW' rfl hw Try.laidOut f10_read rfl f10_res Try.underlying4⟩
theorem f10_named : Try.checked.prog.funcNamed Rows.codeCountersRow.func = some 10 := by kernel_rfl
theorem f10_inst : Try.f10.isInstance Try.checked.prog Rows.codeCountersRow.origin Rows.codeCountersRow.targs := (of_decide_eq_true (by kernel_rfl))
theorem f10_wrap : Try.f10.isWrapper Try.checked.prog Rows.codeCountersRow.wrapper Rows.codeCountersRow.mainSum := (by unfold Func.isWrapper; first | (rw [if_pos (by decide +kernel)]; kernel_rfl) | (rw [if_neg (by decide +kernel)]; exact ⟨rfl, rfl⟩))
theorem codeCounters_holds : Rows.CodeCountersSaid :=
  OpenClaim.holds_of_wide 10 Try.f10 rfl rfl rfl rfl rfl rfl rfl ⟨rfl, rfl, rfl, rfl, rfl⟩ rfl rfl rfl rfl rfl f10_named Try.func10 f10_closed
    f10_inst f10_wrap
    (fun os started H enc _ => codeCounters_lifted os started H enc)
end Go.Proofs.Ytggpebgigddogaa
