/- Two parts of the proof. -/
import Derived.Test.YtefmjmghkedciaaSxRowA
import Derived.Test.YtefmjmghkedciaaSxLTexts
import Derived.Test.YtefmjmghkedciaaSxRow2
set_option linter.unusedVariables false
set_option linter.unusedSimpArgs false
namespace Go.Proofs.Ytefmjmghkedciaa
theorem f4_lifted : (Rows.bitsTextsRow.lifted == Try.prog.liftsFinal) = true := by rw [prog_lifts]; rfl
theorem f4_make : (Try.prog.make == some Rows.bitsTextsRow.make) = true := by rw [prog_make]; rfl
set_option maxHeartbeats 4000000 in
theorem f4_closed' : joinedFacts Try.prog 4 Try.f4 Rows.bitsTextsSpec Rows.bitsTextsRow = true := by
  simp only [joinedFacts, Bool.and_eq_true]
  repeat' apply And.intro
  all_goals first | (with_reducible exact prog_mayEnter) | (with_reducible exact f4_lifted) | (with_reducible exact f4_make) | (as_aux_lemma => kernel_rfl)
theorem f4_closed : joinedFacts Try.checked.prog 4 Try.f4 Rows.bitsTextsSpec Rows.bitsTextsRow = true := f4_closed'
end Go.Proofs.Ytefmjmghkedciaa

namespace Go.Proofs.Ytefmjmghkedciaa
open Go.ChangeShapes Go.WideShapes Go.ChangeAt Go.RowKit Go.Sx
theorem f4_read : (Try.f4.params.toList.all fun t => Try.prog.readableRec t && decide (t < Try.prog.types.size)) = true := by kernel_rfl
theorem f4_res : Try.f4.resultTypes = #[4] := by kernel_rfl
theorem ats22_bitsTexts : Sx.atsOf Try.prog 8 22 = some [.sl .u8] := by kernel_rfl
theorem agg22_bitsTexts : Sx.aggT Try.prog 22 = false := by kernel_rfl
theorem ats9_bitsTexts : Sx.atsOf Try.prog 8 9 = some [.str] := by kernel_rfl
theorem agg9_bitsTexts : Sx.aggT Try.prog 9 = false := by kernel_rfl
set_option maxRecDepth 100000 in
theorem bitsTexts_lifted (os : Os) (started : os.Started) (H : Type) (enc : TypeId × Value → H) :
    ReturnsInHanded {} Try.checked os 4 .any (Rows.bitsTextsSpec.pre6 enc Try.prog Try.f4 Rows.bitsTextsRow.domain false) (Rows.bitsTextsSpec.post enc Try.prog Try.f4 false true false false) := by
  refine returnsInHanded_of_change (C := Try.checked) Try.own started (by kernel_rfl) Try.func4
    (ChangeSpec.witness6 (enc := enc) (C := Try.checked) false ⟨#[], #[.slice none 0 0, .slice none 0 0, .string ⟨#[]⟩], []⟩ 8 (by kernel_rfl) (by kernel_rfl) (by kernel_rfl) (by kernel_rfl)) ?_
  intro W base args ds gs before hval0 hW hcnd _
  have hval : ∀ (j : Nat) t v, Try.f4.params[j]? = some t → args[j]? = some v → Value.okWide Try.prog W .any base t v := hval0
  have hW' := hW
  obtain ⟨p, q, hA0, hV, rfl, hfz, hnd⟩ := hW
  have hA : DataW.TrodAll enc Try.prog W 0 (fun _ => true) true Try.f4.params.toList args.toList ds p := hA0
  rw [Try.params4] at hA hval
  obtain ⟨v0, vs0, d0, ds0, p0, q0, hv0, rfl, rfl, h0, hr0⟩ := trodAll_cons hA
  obtain ⟨v1, vs1, d1, ds1, p1, q1, hv1, rfl, rfl, h1, hr1⟩ := trodAll_cons hr0
  obtain ⟨v2, vs2, d2, ds2, p2, q2, hv2, rfl, rfl, h2, hr2⟩ := trodAll_cons hr1
  obtain ⟨rfl, rfl, rfl⟩ := trodAll_nil hr2
  subst hv1
  subst hv2
  have hargs : args = #[v0, v1, v2] := by have := congrArg List.toArray hv0; simpa using this
  subst hargs
  clear hv0
  obtain ⟨rfl, rfl⟩ := trodVars_none hV
  have sp0 := fun a l c => Sx.value_spot (a := a) (l := l) (c := c) (hval 0 22 v0 rfl rfl)
  have at0 := Sx.ats_open (l := [.sl .u8]) (m := 8) ats22_bitsTexts (by kernel_rfl) h0
  have ce0 := Sx.one_open agg22_bitsTexts (hval 0 22 v0 rfl rfl)
  rw [ce0] at sp0 at0
  clear ce0
  obtain ⟨_, t0_0, e0_0, ⟨q0_0, l0_0, c0_0, x0_0, rfl, i0_0, o0_0, w0_0⟩, a0_0⟩ := at0
  obtain rfl : t0_0 = [] := a0_0
  simp only [List.cons_append, List.nil_append, List.cons.injEq, and_true] at e0_0
  subst e0_0
  obtain ⟨r0_0, rfl, g0_0, m0_0, M0_0, e0_0, k0_0⟩ := Sx.row_open o0_0 fun a ha => sp0 a l0_0 c0_0 (by rw [ha]; simp)
  have sp1 := fun a l c => Sx.value_spot (a := a) (l := l) (c := c) (hval 1 22 v1 rfl rfl)
  have at1 := Sx.ats_open (l := [.sl .u8]) (m := 8) ats22_bitsTexts (by kernel_rfl) h1
  have ce1 := Sx.one_open agg22_bitsTexts (hval 1 22 v1 rfl rfl)
  rw [ce1] at sp1 at1
  clear ce1
  obtain ⟨_, t1_0, e1_0, ⟨q1_0, l1_0, c1_0, x1_0, rfl, i1_0, o1_0, w1_0⟩, a1_0⟩ := at1
  obtain rfl : t1_0 = [] := a1_0
  simp only [List.cons_append, List.nil_append, List.cons.injEq, and_true] at e1_0
  subst e1_0
  obtain ⟨r1_0, rfl, g1_0, m1_0, M1_0, e1_0, k1_0⟩ := Sx.row_open o1_0 fun a ha => sp1 a l1_0 c1_0 (by rw [ha]; simp)
  have sp2 := fun a l c => Sx.value_spot (a := a) (l := l) (c := c) (hval 2 9 v2 rfl rfl)
  have at2 := Sx.ats_open (l := [.str]) (m := 8) ats9_bitsTexts (by kernel_rfl) h2
  have ce2 := Sx.one_open agg9_bitsTexts (hval 2 9 v2 rfl rfl)
  rw [ce2] at sp2 at2
  clear ce2
  obtain ⟨_, t2_0, e2_0, ⟨n2_0, rfl, w2_0⟩, a2_0⟩ := at2
  obtain rfl : t2_0 = [] := a2_0
  simp only [List.cons_append, List.nil_append, List.cons.injEq, and_true] at e2_0
  subst e2_0
  have hP : DbitsTexts [.slice ⟨0, 0, 0, 1⟩ l0_0 c0_0, .slice ⟨1, 0, 0, 1⟩ l1_0 c1_0, .str n2_0] ⟨2, Sx.entsRO 0 [(r0_0, [.ints .u8 l0_0 x0_0]), (r1_0, [.ints .u8 l1_0 x1_0])]⟩ = some (l0_0 = l0_0 ∧ l1_0 = l1_0 ∧ ((List.length x0_0 = l0_0 ∧ l0_0 ≤ c0_0 ∧ Byt x0_0) ∧ (List.length x1_0 = l1_0 ∧ l1_0 ≤ c1_0 ∧ Byt x1_0)), fun K => K (.bool true) ⟨2, Sx.entsRO 0 [(r0_0, [.ints .u8 l0_0 x0_0]), (r1_0, [.ints .u8 l1_0 x1_0])]⟩) := by kernel_rfl
  have h := Sx.sound_rows (W := W) (args := [.slice ⟨0, 0, 0, 1⟩ l0_0 c0_0, .slice ⟨1, 0, 0, 1⟩ l1_0 c1_0, .str n2_0]) [(r0_0, [.ints .u8 l0_0 x0_0]), (r1_0, [.ints .u8 l1_0 x1_0])] sbitsTexts (Sx.gS_mk hP ⟨rfl, rfl, ⟨i0_0, m0_0, fun x hx => Sx.wf_u8 (w0_0 x hx)⟩, ⟨i1_0, m1_0, fun x hx => Sx.wf_u8 (w1_0 x hx)⟩⟩ rfl) (by
    simp only [List.mem_cons, List.not_mem_nil, or_false]
    rintro e (rfl | rfl)
    · exact Sx.row_ints (fun h => (g0_0 h).1) k0_0
    · exact Sx.row_ints (fun h => (g1_0 h).1) k1_0) (by
    simp only [Sx.okL, Sx.SVal.ok, Sx.okCs, Sx.Chunk.ok, Sx.rhoOf, Sx.PlanV.cs, and_true, true_and]
    exact ⟨⟨by simp, g0_0⟩, ⟨by simp, g1_0⟩⟩)
  simp only [Sx.concL, Sx.SVal.conc, Sx.SAddr.conc, Sx.concCs, Sx.Chunk.conc, Sx.rhoOf, List.append_nil, List.getElem?_cons_zero, List.getElem?_cons_succ, Nat.zero_mul, Nat.add_zero, List.cons_append, List.nil_append] at h ⊢
  refine h.mono fun e W' ⟨he, hw⟩ => ?_
  subst he
  exact ⟨_, rfl, Sx.law_post hW' rfl hw Try.laidOut f4_read rfl f4_res Try.underlying4⟩
theorem f4_named : Try.checked.prog.funcNamed Rows.bitsTextsRow.func = some 4 := by kernel_rfl
theorem f4_inst : Try.f4.isInstance Try.checked.prog Rows.bitsTextsRow.origin Rows.bitsTextsRow.targs := (of_decide_eq_true (by kernel_rfl))
theorem f4_wrap : Try.f4.isWrapper Try.checked.prog Rows.bitsTextsRow.wrapper Rows.bitsTextsRow.mainSum := (by unfold Func.isWrapper; first | (rw [if_pos (by decide +kernel)]; kernel_rfl) | (rw [if_neg (by decide +kernel)]; exact ⟨rfl, rfl⟩))
/-- Any bytes as a text, and the bytes of any text, are told exactly, bytes come back from their text, and bytes that are unlike in what two rows are make the one of the other: for any two rows and any text. No condition. -/
theorem bitsTexts_holds : Rows.BitsTextsSaid :=
  OpenClaim.holds_of_wide 4 Try.f4 rfl rfl rfl rfl rfl rfl rfl ⟨rfl, rfl, rfl, rfl, rfl⟩ rfl rfl rfl rfl rfl f4_named Try.func4 f4_closed
    f4_inst f4_wrap
    (fun os started H enc _ => bitsTexts_lifted os started H enc)
end Go.Proofs.Ytefmjmghkedciaa
