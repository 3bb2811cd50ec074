/- Two parts of the proof. -/
import Derived.Test.YtggpebgigddogaaSxRowA
import Derived.Test.YtggpebgigddogaaSxLCodeOnce
import Derived.Test.YtggpebgigddogaaSxRow2
set_option linter.unusedVariables false
set_option linter.unusedSimpArgs false
namespace Go.Proofs.Ytggpebgigddogaa
theorem f5_lifted : (Rows.codeOnceRow.lifted == Try.prog.liftsFinal) = true := by rw [prog_lifts]; rfl
theorem f5_make : (Try.prog.make == some Rows.codeOnceRow.make) = true := by rw [prog_make]; rfl
set_option maxHeartbeats 4000000 in
theorem f5_closed' : joinedFacts Try.prog 5 Try.f5 Rows.codeOnceSpec Rows.codeOnceRow = true := by
  simp only [joinedFacts, Bool.and_eq_true]
  repeat' apply And.intro
  all_goals first | (with_reducible exact prog_mayEnter) | (with_reducible exact f5_lifted) | (with_reducible exact f5_make) | (as_aux_lemma => kernel_rfl)
theorem f5_closed : joinedFacts Try.checked.prog 5 Try.f5 Rows.codeOnceSpec Rows.codeOnceRow = true := f5_closed'
end Go.Proofs.Ytggpebgigddogaa

namespace Go.Proofs.Ytggpebgigddogaa
open Go.ChangeShapes Go.WideShapes Go.ChangeAt Go.RowKit Go.Sx
theorem f5_read : (Try.f5.params.toList.all fun t => Try.prog.readableRec t && decide (t < Try.prog.types.size)) = true := by kernel_rfl
theorem f5_res : Try.f5.resultTypes = #[4] := by kernel_rfl
theorem ats31_codeOnce : Sx.atsOf Try.prog 8 31 = some [.int .u64, .sl .i64] := by kernel_rfl
theorem agg31_codeOnce : Sx.aggT Try.prog 31 = true := by kernel_rfl
set_option maxRecDepth 100000 in
theorem codeOnce_lifted (os : Os) (started : os.Started) (H : Type) (enc : TypeId × Value → H) :
    ReturnsInHanded {} Try.checked os 5 .any (Rows.codeOnceSpec.pre6 enc Try.prog Try.f5 Rows.codeOnceRow.domain false) (Rows.codeOnceSpec.post enc Try.prog Try.f5 false true false false) := by
  refine returnsInHanded_of_change (C := Try.checked) Try.own started (by kernel_rfl) Try.func5
    (ChangeSpec.witness6 (enc := enc) (C := Try.checked) false ⟨#[], #[.agg #[.int .i64 0, .int .i64 0, .int .i64 0, .int .i64 0, .int .i64 0, .int .i64 0, .int .u64 0, .int .i64 0, .int .i64 0, .int .i64 0, .int .i64 0, .int .i64 0, .int .i64 0, .int .i64 0, .int .u8 0, .int .u8 0, .int .u8 0, .int .u8 0, .int .u8 0, .int .u8 0, .int .u8 0, .int .u8 0, .int .u8 0, .int .u8 0, .int .u8 0, .int .u8 0, .int .u8 0, .int .u8 0, .int .u8 0, .int .u8 0, .int .u8 0, .int .u8 0, .int .u8 0, .int .u8 0, .int .u8 0, .int .u8 0, .int .u8 0, .int .u8 0, .int .u8 0, .int .u8 0, .int .u8 0, .int .u8 0, .int .u8 0, .int .u8 0, .int .u8 0, .int .u8 0], .agg #[.int .u64 0, .slice none 0 0], .agg #[.int .u64 0, .slice none 0 0]], []⟩ 8 (by kernel_rfl) (by kernel_rfl) (by kernel_rfl) (by kernel_rfl)) ?_
  intro W base args ds gs before hval0 hW hcnd _
  have hval : ∀ (j : Nat) t v, Try.f5.params[j]? = some t → args[j]? = some v → Value.okWide Try.prog W .any base t v := hval0
  have hW' := hW
  obtain ⟨p, q, hA0, hV, rfl, hfz, hnd⟩ := hW
  have hA : DataW.TrodAll enc Try.prog W 0 (fun _ => true) true Try.f5.params.toList args.toList ds p := hA0
  rw [Try.params5] at hA hval
  obtain ⟨v0, vs0, d0, ds0, p0, q0, hv0, rfl, rfl, h0, hr0⟩ := trodAll_cons hA
  obtain ⟨v1, vs1, d1, ds1, p1, q1, hv1, rfl, rfl, h1, hr1⟩ := trodAll_cons hr0
  obtain ⟨v2, vs2, d2, ds2, p2, q2, hv2, rfl, rfl, h2, hr2⟩ := trodAll_cons hr1
  obtain ⟨rfl, rfl, rfl⟩ := trodAll_nil hr2
  subst hv1
  subst hv2
  have hargs : args = #[v0, v1, v2] := by have := congrArg List.toArray hv0; simpa using this
  subst hargs
  clear hv0
  obtain ⟨rfl, rfl⟩ := trodVars_none hV
  obtain ⟨cs0, rfl, k0⟩ := Sx.open_cells kinds_Plan cells_Plan key_Plan agg_Plan (hval 0 28 v0 rfl rfl) h0
  obtain ⟨x0, rfl, w0⟩ := open_Plan (fun _ => none) k0
  have sp1 := fun a l c => Sx.value_spot (a := a) (l := l) (c := c) (hval 1 31 v1 rfl rfl)
  have at1 := Sx.ats_open (l := [.int .u64, .sl .i64]) (m := 8) ats31_codeOnce (by kernel_rfl) h1
  obtain ⟨cs1, rfl, ce1⟩ := Sx.agg_open agg31_codeOnce (hval 1 31 v1 rfl rfl)
  rw [ce1] at sp1 at1
  clear ce1
  obtain ⟨_, t1_0, rfl, ⟨n1_0, rfl, w1_0⟩, a1_0⟩ := at1
  obtain ⟨_, t1_1, rfl, ⟨q1_1, l1_1, c1_1, x1_1, rfl, i1_1, o1_1, w1_1⟩, a1_1⟩ := a1_0
  obtain rfl : t1_1 = [] := a1_1
  obtain ⟨r1_1, rfl, g1_1, m1_1, M1_1, e1_1, k1_1⟩ := Sx.row_open o1_1 fun a ha => sp1 a l1_1 c1_1 (by rw [ha]; simp)
  have sp2 := fun a l c => Sx.value_spot (a := a) (l := l) (c := c) (hval 2 31 v2 rfl rfl)
  have at2 := Sx.ats_open (l := [.int .u64, .sl .i64]) (m := 8) ats31_codeOnce (by kernel_rfl) h2
  obtain ⟨cs2, rfl, ce2⟩ := Sx.agg_open agg31_codeOnce (hval 2 31 v2 rfl rfl)
  rw [ce2] at sp2 at2
  clear ce2
  obtain ⟨_, t2_0, rfl, ⟨n2_0, rfl, w2_0⟩, a2_0⟩ := at2
  obtain ⟨_, t2_1, rfl, ⟨q2_1, l2_1, c2_1, x2_1, rfl, i2_1, o2_1, w2_1⟩, a2_1⟩ := a2_0
  obtain rfl : t2_1 = [] := a2_1
  obtain ⟨r2_1, rfl, g2_1, m2_1, M2_1, e2_1, k2_1⟩ := Sx.row_open o2_1 fun a ha => sp2 a l2_1 c2_1 (by rw [ha]; simp)
  have hP : DcodeOnce [.agg (Sx.PlanV.cs x0), .agg [.one (.int .u64 n1_0), .one (.slice ⟨0, 0, 0, 1⟩ l1_1 c1_1)], .agg [.one (.int .u64 n2_0), .one (.slice ⟨1, 0, 0, 1⟩ l2_1 c2_1)]] ⟨2, Sx.entsRO 0 [(r1_1, [.ints .i64 l1_1 x1_1]), (r2_1, [.ints .i64 l2_1 x2_1])]⟩ = some (l1_1 = l1_1 ∧ l2_1 = l2_1 ∧ (PlanV.Wf x0 ∧ ((List.length x1_1 = l1_1 ∧ l1_1 ≤ c1_1 ∧ ∀ x ∈ x1_1, I64 x) ∧ 0 ≤ n1_0 ∧ n1_0 < 2 ^ 64) ∧ ((List.length x2_1 = l2_1 ∧ l2_1 ≤ c2_1 ∧ ∀ x ∈ x2_1, I64 x) ∧ 0 ≤ n2_0 ∧ n2_0 < 2 ^ 64)), fun K => K (.bool true) ⟨2, Sx.entsRO 0 [(r1_1, [.ints .i64 l1_1 x1_1]), (r2_1, [.ints .i64 l2_1 x2_1])]⟩) := by kernel_rfl
  have h := Sx.sound_rows (W := W) (args := [.agg (Sx.PlanV.cs x0), .agg [.one (.int .u64 n1_0), .one (.slice ⟨0, 0, 0, 1⟩ l1_1 c1_1)], .agg [.one (.int .u64 n2_0), .one (.slice ⟨1, 0, 0, 1⟩ l2_1 c2_1)]]) [(r1_1, [.ints .i64 l1_1 x1_1]), (r2_1, [.ints .i64 l2_1 x2_1])] scodeOnce (Sx.gS_mk hP ⟨rfl, rfl, w0, ⟨⟨i1_1, m1_1, fun x hx => Sx.wf_i64 (w1_1 x hx)⟩, (Sx.wf_u64 w1_0).1, (Sx.wf_u64 w1_0).2⟩, ⟨⟨i2_1, m2_1, fun x hx => Sx.wf_i64 (w2_1 x hx)⟩, (Sx.wf_u64 w2_0).1, (Sx.wf_u64 w2_0).2⟩⟩ rfl) (by
    simp only [List.mem_cons, List.not_mem_nil, or_false]
    rintro e (rfl | rfl)
    · exact Sx.row_ints (fun h => (g1_1 h).1) k1_1
    · exact Sx.row_ints (fun h => (g2_1 h).1) k2_1) (by
    simp only [Sx.okL, Sx.SVal.ok, Sx.okCs, Sx.Chunk.ok, Sx.rhoOf, Sx.PlanV.cs, and_true, true_and, Sx.PlanV.cs]
    exact ⟨⟨by simp, g1_1⟩, ⟨by simp, g2_1⟩⟩)
  simp only [Sx.concL, Sx.SVal.conc, Sx.SAddr.conc, Sx.concCs, Sx.Chunk.conc, Sx.rhoOf, List.append_nil, List.getElem?_cons_zero, List.getElem?_cons_succ, Nat.zero_mul, Nat.add_zero, List.cons_append, List.nil_append] at h ⊢
  refine h.mono fun e W' ⟨he, hw⟩ => ?_
  subst he
  exact ⟨_, rfl, Sx.law_post hW' rfl hw Try.laidOut f5_read rfl f5_res Try.underlying4⟩
theorem f5_named : Try.checked.prog.funcNamed Rows.codeOnceRow.func = some 5 := by kernel_rfl
theorem f5_inst : Try.f5.isInstance Try.checked.prog Rows.codeOnceRow.origin Rows.codeOnceRow.targs := (of_decide_eq_true (by kernel_rfl))
theorem f5_wrap : Try.f5.isWrapper Try.checked.prog Rows.codeOnceRow.wrapper Rows.codeOnceRow.mainSum := (by unfold Func.isWrapper; first | (rw [if_pos (by decide +kernel)]; kernel_rfl) | (rw [if_neg (by decide +kernel)]; exact ⟨rfl, rfl⟩))
/-- Of a plan's right counters no two have the same bytes: for every plan and any two counters. No condition. -/
theorem codeOnce_holds : Rows.CodeOnceSaid :=
  OpenClaim.holds_of_wide 5 Try.f5 rfl rfl rfl rfl rfl rfl rfl ⟨rfl, rfl, rfl, rfl, rfl⟩ rfl rfl rfl rfl rfl f5_named Try.func5 f5_closed
    f5_inst f5_wrap
    (fun os started H enc _ => codeOnce_lifted os started H enc)
end Go.Proofs.Ytggpebgigddogaa
