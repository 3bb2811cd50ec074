/- Two parts of the proof. -/
import Derived.Test.YtggpebgigddogaaSxRowA
import Derived.Test.YtggpebgigddogaaSxLFlips
import Derived.Test.YtggpebgigddogaaSxRow2
set_option linter.unusedVariables false
set_option linter.unusedSimpArgs false
namespace Go.Proofs.Ytggpebgigddogaa
theorem f7_lifted : (Rows.dramFlipsRow.lifted == Try.prog.liftsFinal) = true := by rw [prog_lifts]; rfl
theorem f7_make : (Try.prog.make == some Rows.dramFlipsRow.make) = true := by rw [prog_make]; rfl
set_option maxHeartbeats 4000000 in
theorem f7_closed' : joinedFacts Try.prog 7 Try.f7 Rows.dramFlipsSpec Rows.dramFlipsRow = true := by
  simp only [joinedFacts, Bool.and_eq_true]
  repeat' apply And.intro
  all_goals first | (with_reducible exact prog_mayEnter) | (with_reducible exact f7_lifted) | (with_reducible exact f7_make) | (as_aux_lemma => kernel_rfl)
theorem f7_closed : joinedFacts Try.checked.prog 7 Try.f7 Rows.dramFlipsSpec Rows.dramFlipsRow = true := f7_closed'
end Go.Proofs.Ytggpebgigddogaa

namespace Go.Proofs.Ytggpebgigddogaa
open Go.ChangeShapes Go.WideShapes Go.ChangeAt Go.RowKit Go.Sx
theorem f7_read : (Try.f7.params.toList.all fun t => Try.prog.readableRec t && decide (t < Try.prog.types.size)) = true := by kernel_rfl
theorem f7_res : Try.f7.resultTypes = #[4] := by kernel_rfl
theorem ats54_dramFlips : Sx.atsOf Try.prog 8 54 = some [.sl .u8] := by kernel_rfl
theorem agg54_dramFlips : Sx.aggT Try.prog 54 = false := by kernel_rfl
set_option maxRecDepth 100000 in
theorem dramFlips_lifted (os : Os) (started : os.Started) (H : Type) (enc : TypeId × Value → H) :
    ReturnsInHanded {} Try.checked os 7 .any (Rows.dramFlipsSpec.pre6 enc Try.prog Try.f7 Rows.dramFlipsRow.domain false) (Rows.dramFlipsSpec.post enc Try.prog Try.f7 false true false false) := by
  refine returnsInHanded_of_change (C := Try.checked) Try.own started (by kernel_rfl) Try.func7
    (ChangeSpec.witness6 (enc := enc) (C := Try.checked) false ⟨#[], #[.slice none 0 0, .int .i64 0], []⟩ 8 (by kernel_rfl) (by kernel_rfl) (by kernel_rfl) (by kernel_rfl)) ?_
  intro W base args ds gs before hval0 hW hcnd _
  have hval : ∀ (j : Nat) t v, Try.f7.params[j]? = some t → args[j]? = some v → Value.okWide Try.prog W .any base t v := hval0
  have hW' := hW
  obtain ⟨p, q, hA0, hV, rfl, hfz, hnd⟩ := hW
  have hA : DataW.TrodAll enc Try.prog W 0 (fun _ => true) true Try.f7.params.toList args.toList ds p := hA0
  rw [Try.params7] at hA hval
  obtain ⟨v0, vs0, d0, ds0, p0, q0, hv0, rfl, rfl, h0, hr0⟩ := trodAll_cons hA
  obtain ⟨v1, vs1, d1, ds1, p1, q1, hv1, rfl, rfl, h1, hr1⟩ := trodAll_cons hr0
  obtain ⟨rfl, rfl, rfl⟩ := trodAll_nil hr1
  subst hv1
  have hargs : args = #[v0, v1] := by have := congrArg List.toArray hv0; simpa using this
  subst hargs
  clear hv0
  obtain ⟨rfl, rfl⟩ := trodVars_none hV
  have sp0 := fun a l c => Sx.value_spot (a := a) (l := l) (c := c) (hval 0 54 v0 rfl rfl)
  have at0 := Sx.ats_open (l := [.sl .u8]) (m := 8) ats54_dramFlips (by kernel_rfl) h0
  have ce0 := Sx.one_open agg54_dramFlips (hval 0 54 v0 rfl rfl)
  rw [ce0] at sp0 at0
  clear ce0
  obtain ⟨_, t0_0, e0_0, ⟨q0_0, l0_0, c0_0, x0_0, rfl, i0_0, o0_0, w0_0⟩, a0_0⟩ := at0
  obtain rfl : t0_0 = [] := a0_0
  simp only [List.cons_append, List.nil_append, List.cons.injEq, and_true] at e0_0
  subst e0_0
  obtain ⟨r0_0, rfl, g0_0, m0_0, M0_0, e0_0, k0_0⟩ := Sx.row_open o0_0 fun a ha => sp0 a l0_0 c0_0 (by rw [ha]; simp)
  obtain ⟨n1, rfl, rfl, rfl, w1⟩ := open_int Try.underlying3 (hval 1 3 v1 rfl rfl) h1
  have hP : DdramFlips [.slice ⟨0, 0, 0, 1⟩ l0_0 c0_0, .int .i64 n1] ⟨1, Sx.entsRO 0 [(r0_0, [.ints .u8 l0_0 x0_0])]⟩ = some (l0_0 = l0_0 ∧ ((List.length x0_0 = l0_0 ∧ l0_0 ≤ c0_0 ∧ Byt x0_0) ∧ I64 n1), fun K => K (.bool true) ⟨1, Sx.entsRO 0 [(r0_0, [.ints .u8 l0_0 x0_0])]⟩) := by kernel_rfl
  have h := Sx.sound_rows (W := W) (args := [.slice ⟨0, 0, 0, 1⟩ l0_0 c0_0, .int .i64 n1]) [(r0_0, [.ints .u8 l0_0 x0_0])] sdramFlips (Sx.gS_mk hP ⟨rfl, ⟨i0_0, m0_0, fun x hx => Sx.wf_u8 (w0_0 x hx)⟩, Sx.wf_i64 w1⟩ rfl) (by
    simp only [List.mem_cons, List.not_mem_nil, or_false]
    rintro e rfl
    · exact Sx.row_ints (fun h => (g0_0 h).1) k0_0) (by
    simp only [Sx.okL, Sx.SVal.ok, Sx.okCs, Sx.Chunk.ok, Sx.rhoOf, Sx.PlanV.cs, and_true, true_and]
    exact ⟨by simp, g0_0⟩)
  simp only [Sx.concL, Sx.SVal.conc, Sx.SAddr.conc, Sx.concCs, Sx.Chunk.conc, Sx.rhoOf, List.append_nil, List.getElem?_cons_zero, List.getElem?_cons_succ, Nat.zero_mul, Nat.add_zero, List.cons_append, List.nil_append] at h ⊢
  refine h.mono fun e W' ⟨he, hw⟩ => ?_
  subst he
  exact ⟨_, rfl, Sx.law_post hW' rfl hw Try.laidOut f7_read rfl f7_res Try.underlying4⟩
theorem f7_named : Try.checked.prog.funcNamed Rows.dramFlipsRow.func = some 7 := by kernel_rfl
theorem f7_inst : Try.f7.isInstance Try.checked.prog Rows.dramFlipsRow.origin Rows.dramFlipsRow.targs := (of_decide_eq_true (by kernel_rfl))
theorem f7_wrap : Try.f7.isWrapper Try.checked.prog Rows.dramFlipsRow.wrapper Rows.dramFlipsRow.mainSum := (by unfold Func.isWrapper; first | (rw [if_pos (by decide +kernel)]; kernel_rfl) | (rw [if_neg (by decide +kernel)]; exact ⟨rfl, rfl⟩))
/-- A flipped bit of made memory is the one that was named, alone, and a second flip of it brings the bytes back; a place that is not there is told as wrong and nothing changes: for any bytes and place. No condition. -/
theorem dramFlips_holds : Rows.DramFlipsSaid :=
  OpenClaim.holds_of_wide 7 Try.f7 rfl rfl rfl rfl rfl rfl rfl ⟨rfl, rfl, rfl, rfl, rfl⟩ rfl rfl rfl rfl rfl f7_named Try.func7 f7_closed
    f7_inst f7_wrap
    (fun os started H enc _ => dramFlips_lifted os started H enc)
end Go.Proofs.Ytggpebgigddogaa
