/- Two parts of the proof. -/
import Derived.Test.YtinjdimejijabaaSxRowA
import Derived.Test.YtinjdimejijabaaSxLOrder
import Derived.Test.YtinjdimejijabaaSxWaysR
import Derived.Test.YtinjdimejijabaaSxRow2
set_option linter.unusedVariables false
set_option linter.unusedSimpArgs false
namespace Go.Proofs.Ytinjdimejijabaa
theorem ZqN : (Rows.waysOrderRow.lifted == Try.prog.liftsFinal) = true := by rw [ZoA]; rfl
theorem ZuH : (Try.prog.make == some Rows.waysOrderRow.make) = true := by rw [Zp2]; rfl
set_option maxHeartbeats 4000000 in
theorem ZoD : joinedFacts Try.prog 9 Try.f9 Rows.waysOrderSpec Rows.waysOrderRow = true := by
  simp only [joinedFacts, Bool.and_eq_true]
  repeat' apply And.intro
  all_goals first | (with_reducible exact Zi8) | (with_reducible exact ZqN) | (with_reducible exact ZuH) | (as_aux_lemma => kernel_rfl)
theorem ZqO : joinedFacts Try.checked.prog 9 Try.f9 Rows.waysOrderSpec Rows.waysOrderRow = true := ZoD
end Go.Proofs.Ytinjdimejijabaa

namespace Go.Proofs.Ytinjdimejijabaa
open Go.ChangeShapes Go.WideShapes Go.ChangeAt Go.RowKit Go.Sx
theorem ZuG : (Try.f9.params.toList.all fun t => Try.prog.readableRec t && decide (t < Try.prog.types.size)) = true := by kernel_rfl
theorem ZzJ : Try.f9.resultTypes = #[4] := by kernel_rfl
theorem Zh2 : Sx.Zlf Try.prog 8 24 = some [.int .i64, .int .i64] := by kernel_rfl
theorem Zh6 : Sx.Zu1 Try.prog 24 = true := by kernel_rfl
theorem Zh1 : Sx.Zlf Try.prog 8 35 = some [.rw [.int .i64, .int .i64, .int .i64]] := by kernel_rfl
theorem Zh5 : Sx.Zu1 Try.prog 35 = false := by kernel_rfl
set_option maxRecDepth 100000 in
theorem waysOrder_lifted (os : Os) (started : os.Started) (H : Type) (enc : TypeId × Value -> H) :
    ReturnsInHanded {} Try.checked os 9 .any (Rows.waysOrderSpec.pre6 enc Try.prog Try.f9 Rows.waysOrderRow.domain false) (Rows.waysOrderSpec.post enc Try.prog Try.f9 false true false false) := by
  refine returnsInHanded_of_change (C := Try.checked) Try.own started (by kernel_rfl) Try.func9
    (ChangeSpec.witness6 (enc := enc) (C := Try.checked) false ⟨#[], #[.agg #[.int .i64 0, .int .i64 0], .slice none 0 0, .int .i64 0], []⟩ 8 (by kernel_rfl) (by kernel_rfl) (by kernel_rfl) (by kernel_rfl)) ?_
  intro W base args ds gs before hval0 hW hcnd _
  have hval : ∀ (j : Nat) t v, Try.f9.params[j]? = some t -> args[j]? = some v -> Value.okWide Try.prog W .any base t v := hval0
  have hW' := hW
  obtain ⟨p, q, hA0, hV, rfl, hfz, hnd⟩ := hW
  have hA : DataW.TrodAll enc Try.prog W 0 (fun _ => true) true Try.f9.params.toList args.toList ds p := hA0
  rw [Try.params9] at hA hval
  obtain ⟨v0, vs0, d0, ds0, p0, q0, hv0, rfl, rfl, h0, hr0⟩ := trodAll_cons hA
  obtain ⟨v1, vs1, d1, ds1, p1, q1, hv1, rfl, rfl, h1, hr1⟩ := trodAll_cons hr0
  obtain ⟨v2, vs2, d2, ds2, p2, q2, hv2, rfl, rfl, h2, hr2⟩ := trodAll_cons hr1
  obtain ⟨rfl, rfl, rfl⟩ := trodAll_nil hr2
  subst hv1
  subst hv2
  have hargs : args = #[v0, v1, v2] := by have := congrArg List.toArray hv0; simpa using this
  subst hargs
  clear hv0
  obtain ⟨rfl, rfl⟩ := trodVars_none hV
  have sp0 := fun a l c => Sx.Zii (a := a) (l := l) (c := c) (hval 0 24 v0 rfl rfl)
  have at0 := Sx.Zoc (l := [.int .i64, .int .i64]) (m := 8) Zh2 (by kernel_rfl) h0
  obtain ⟨cs0, rfl, ce0⟩ := Sx.Zr4 Zh6 (hval 0 24 v0 rfl rfl)
  rw [ce0] at sp0 at0
  clear ce0
  obtain ⟨_, t0_0, rfl, ⟨n0_0, rfl, w0_0⟩, a0_0⟩ := at0
  obtain ⟨_, t0_1, rfl, ⟨n0_1, rfl, w0_1⟩, a0_1⟩ := a0_0
  obtain rfl : t0_1 = [] := a0_1
  have sp1 := fun a l c => Sx.Zii (a := a) (l := l) (c := c) (hval 1 35 v1 rfl rfl)
  have at1 := Sx.Zoc (l := [.rw [.int .i64, .int .i64, .int .i64]]) (m := 8) Zh1 (by kernel_rfl) h1
  have ce1 := Sx.ZrF Zh5 (hval 1 35 v1 rfl rfl)
  rw [ce1] at sp1 at1
  clear ce1
  obtain ⟨_, t1_0, e1_0, ⟨q1_0, l1_0, c1_0, x1_0, rfl, i1_0, o1_0, w1_0⟩, a1_0⟩ := at1
  obtain rfl : t1_0 = [] := a1_0
  simp only [List.cons_append, List.nil_append, List.cons.injEq, and_true] at e1_0
  subst e1_0
  obtain ⟨r1_0, rfl, g1_0, m1_0, M1_0, e1_0, k1_0⟩ := Sx.ZrB o1_0 fun a ha => sp1 a l1_0 c1_0 (by rw [ha]; simp)
  obtain ⟨n2, rfl, rfl, rfl, w2⟩ := open_int Try.underlying3 (hval 2 3 v2 rfl rfl) h2
  have hP : Zgk [.agg [.one (.int .i64 n0_0), .one (.int .i64 n0_1)], .slice ⟨0, 0, 0, 3⟩ l1_0 c1_0, .int .i64 n2] ⟨1, Sx.ZhM 0 [(r1_0, [.rows Zad l1_0 x1_0])]⟩ = some (l1_0 = l1_0 /\ ((Zki x1_0 /\ List.length x1_0 = l1_0 /\ l1_0 <= c1_0) /\ I64 n2), fun K => K (.bool true) ⟨1, Sx.ZhM 0 [(r1_0, [.rows Zad l1_0 x1_0])]⟩) := by kernel_rfl
  have h := Sx.Zos (W := W) (args := [.agg [.one (.int .i64 n0_0), .one (.int .i64 n0_1)], .slice ⟨0, 0, 0, 3⟩ l1_0 c1_0, .int .i64 n2]) [(r1_0, [.rows Zad l1_0 x1_0])] Zoo (Sx.Zjo hP ⟨rfl, ⟨Sx.ZmU w1_0, i1_0, m1_0⟩, Sx.Zm5 w2⟩ rfl) (by
    simp only [List.mem_cons, List.not_mem_nil, or_false]
    rintro e rfl
    · exact Sx.ZrA (fun h => (g1_0 h).1) k1_0) (by
    simp only [Sx.okL, Sx.SVal.ok, Sx.ZaL, Sx.Chunk.ok, Sx.Zly, Sx.PlanV.cs, and_true, true_and]
    exact ⟨by simp, g1_0⟩)
  simp only [Sx.ZaG, Sx.SVal.conc, Sx.SAddr.conc, Sx.Zaf, Sx.Chunk.conc, Sx.Zly, List.append_nil, List.getElem?_cons_zero, List.getElem?_cons_succ, Nat.zero_mul, Nat.add_zero, List.cons_append, List.nil_append] at h ⊢
  refine h.mono fun e W' ⟨he, hw⟩ => ?_
  subst he
  exact ⟨_, rfl, Sx.ZrK hW' rfl hw Try.laidOut ZuG rfl ZzJ Try.underlying4⟩
theorem ZrU : Try.checked.prog.funcNamed Rows.waysOrderRow.func = some 9 := by kernel_rfl
theorem ZuI : Try.f9.isInstance Try.checked.prog Rows.waysOrderRow.origin Rows.waysOrderRow.targs := (of_decide_eq_true (by kernel_rfl))
theorem ZuF : Try.f9.isWrapper Try.checked.prog Rows.waysOrderRow.wrapper Rows.waysOrderRow.mainSum := (by unfold Func.isWrapper; first | (rw [if_pos (by decide +kernel)]; kernel_rfl) | (rw [if_neg (by decide +kernel)]; exact ⟨rfl, rfl⟩))
theorem waysOrder_holds : Rows.WaysOrderSaid :=
  OpenClaim.holds_of_wide 9 Try.f9 rfl rfl rfl rfl rfl rfl rfl ⟨rfl, rfl, rfl, rfl, rfl⟩ rfl rfl rfl rfl rfl ZrU Try.func9 ZqO
    ZuI ZuF
    (fun os started H enc _ => waysOrder_lifted os started H enc)
end Go.Proofs.Ytinjdimejijabaa
