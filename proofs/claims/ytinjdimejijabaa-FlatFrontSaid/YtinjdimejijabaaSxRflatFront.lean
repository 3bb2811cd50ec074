/- Two parts of the proof. -/
import Derived.Test.YtinjdimejijabaaSxFlat
import Derived.Test.YtinjdimejijabaaSxRow2
import Derived.Test.YtinjdimejijabaaSxRowA
import Derived.Test.YtinjdimejijabaaSxLFront
set_option linter.unusedVariables false
set_option linter.unusedSimpArgs false
namespace Go.Sx
theorem Zrw {l : List (Tup Zat)} (h : ∀ x ∈ l, Tup.wf Zat x) : Ztp l := fun x hx => by
  obtain ⟨h1, h2, h3, h4, h5⟩ := h x hx
  exact ⟨Zdp h1, Zdp h2, Zdp h3, Zpk h4, Zpk h5⟩
end Go.Sx

namespace Go.Proofs.Ytinjdimejijabaa
theorem ZrQ : (Rows.flatFrontRow.lifted == Try.prog.liftsFinal) = true := by rw [ZoW]; rfl
theorem ZwI : (Try.prog.make == some Rows.flatFrontRow.make) = true := by rw [Zrs]; rfl
set_option maxHeartbeats 4000000 in
theorem Zo4 : joinedFacts Try.prog 6 Try.f6 Rows.flatFrontSpec Rows.flatFrontRow = true := by
  simp only [joinedFacts, Bool.and_eq_true]
  repeat' apply And.intro
  all_goals first | (with_reducible exact Zjw) | (with_reducible exact ZrQ) | (with_reducible exact ZwI) | (as_aux_lemma => kernel_rfl)
theorem ZrR : joinedFacts Try.checked.prog 6 Try.f6 Rows.flatFrontSpec Rows.flatFrontRow = true := Zo4
end Go.Proofs.Ytinjdimejijabaa

namespace Go.Proofs.Ytinjdimejijabaa
open Go.ChangeShapes Go.WideShapes Go.ChangeAt Go.RowKit Go.Sx
theorem ZwH : (Try.f6.params.toList.all fun t => Try.prog.readableRec t && decide (t < Try.prog.types.size)) = true := by kernel_rfl
theorem ZAZ : Try.f6.resultTypes = #[4] := by kernel_rfl
theorem ZiJ : Sx.ZnY Try.prog 8 51 = some [.rw [.int .i64, .int .i64, .int .i64, .int .u64, .int .u64]] := by kernel_rfl
theorem ZiK : Sx.ZiO Try.prog 51 = false := by kernel_rfl
set_option maxRecDepth 100000 in
theorem flatFront_lifted (os : Os) (started : os.Started) (H : Type) (enc : TypeId × Value -> H) :
    ReturnsInHanded {} Try.checked os 6 .any (Rows.flatFrontSpec.pre6 enc Try.prog Try.f6 Rows.flatFrontRow.domain false) (Rows.flatFrontSpec.post enc Try.prog Try.f6 false true false false) := by
  refine returnsInHanded_of_change (C := Try.checked) Try.own started (by kernel_rfl) Try.func6
    (ChangeSpec.witness6 (enc := enc) (C := Try.checked) false ⟨#[], #[.agg #[.int .i64 0, .int .i64 0, .int .i64 0, .int .i64 0, .int .i64 0, .int .i64 0, .int .u64 0, .int .i64 0, .int .i64 0, .int .i64 0, .int .i64 0, .int .i64 0, .int .i64 0, .int .i64 0, .int .u8 0, .int .u8 0, .int .u8 0, .int .u8 0, .int .u8 0, .int .u8 0, .int .u8 0, .int .u8 0, .int .u8 0, .int .u8 0, .int .u8 0, .int .u8 0, .int .u8 0, .int .u8 0, .int .u8 0, .int .u8 0, .int .u8 0, .int .u8 0, .int .u8 0, .int .u8 0, .int .u8 0, .int .u8 0, .int .u8 0, .int .u8 0, .int .u8 0, .int .u8 0, .int .u8 0, .int .u8 0, .int .u8 0, .int .u8 0, .int .u8 0, .int .u8 0], .slice none 0 0, .int .i64 0], []⟩ 8 (by kernel_rfl) (by kernel_rfl) (by kernel_rfl) (by kernel_rfl)) ?_
  intro W base args ds gs before hval0 hW hcnd _
  have hval : ∀ (j : Nat) t v, Try.f6.params[j]? = some t -> args[j]? = some v -> Value.okWide Try.prog W .any base t v := hval0
  have hW' := hW
  obtain ⟨p, q, hA0, hV, rfl, hfz, hnd⟩ := hW
  have hA : DataW.TrodAll enc Try.prog W 0 (fun _ => true) true Try.f6.params.toList args.toList ds p := hA0
  rw [Try.params6] at hA hval
  obtain ⟨v0, vs0, d0, ds0, p0, q0, hv0, rfl, rfl, h0, hr0⟩ := trodAll_cons hA
  obtain ⟨v1, vs1, d1, ds1, p1, q1, hv1, rfl, rfl, h1, hr1⟩ := trodAll_cons hr0
  obtain ⟨v2, vs2, d2, ds2, p2, q2, hv2, rfl, rfl, h2, hr2⟩ := trodAll_cons hr1
  obtain ⟨rfl, rfl, rfl⟩ := trodAll_nil hr2
  subst hv1
  subst hv2
  have hargs : args = #[v0, v1, v2] := by have := congrArg List.toArray hv0; simpa using this
  subst hargs
  clear hv0
  obtain ⟨rfl, rfl⟩ := trodVars_none hV
  obtain ⟨cs0, rfl, k0⟩ := Sx.ZoY Zo0 Zpc ZsX Zto (hval 0 28 v0 rfl rfl) h0
  obtain ⟨x0, rfl, w0⟩ := Zrx (fun _ => none) k0
  have sp1 := fun a l c => Sx.ZoO (a := a) (l := l) (c := c) (hval 1 51 v1 rfl rfl)
  have at1 := Sx.Ztk (l := [.rw [.int .i64, .int .i64, .int .i64, .int .u64, .int .u64]]) (m := 8) ZiJ (by kernel_rfl) h1
  have ce1 := Sx.ZsQ ZiK (hval 1 51 v1 rfl rfl)
  rw [ce1] at sp1 at1
  clear ce1
  obtain ⟨_, t1_0, e1_0, ⟨q1_0, l1_0, c1_0, x1_0, rfl, i1_0, o1_0, w1_0⟩, a1_0⟩ := at1
  obtain rfl : t1_0 = [] := a1_0
  simp only [List.cons_append, List.nil_append, List.cons.injEq, and_true] at e1_0
  subst e1_0
  obtain ⟨r1_0, rfl, g1_0, m1_0, M1_0, e1_0, k1_0⟩ := Sx.ZsL o1_0 fun a ha => sp1 a l1_0 c1_0 (by rw [ha]; simp)
  obtain ⟨n2, rfl, rfl, rfl, w2⟩ := open_int Try.underlying3 (hval 2 3 v2 rfl rfl) h2
  have hP : Zht [.agg (Sx.PlanV.cs x0), .slice ⟨0, 0, 0, 5⟩ l1_0 c1_0, .int .i64 n2] ⟨1, Sx.Zir 0 [(r1_0, [.rows Zat l1_0 x1_0])]⟩ = some (l1_0 = l1_0 /\ (PlanV.Wf x0 /\ (Ztp x1_0 /\ List.length x1_0 = l1_0 /\ l1_0 <= c1_0) /\ I64 n2), fun K => K (.bool true) ⟨1, Sx.Zir 0 [(r1_0, [.rows Zat l1_0 x1_0])]⟩) := by kernel_rfl
  have h := Sx.ZoR (W := W) (args := [.agg (Sx.PlanV.cs x0), .slice ⟨0, 0, 0, 5⟩ l1_0 c1_0, .int .i64 n2]) [(r1_0, [.rows Zat l1_0 x1_0])] ZoS (Sx.ZBY hP ⟨rfl, w0, ⟨Sx.Zrw w1_0, i1_0, m1_0⟩, Sx.Zdp w2⟩ rfl) (by
    simp only [List.mem_cons, List.not_mem_nil, or_false]
    rintro e rfl
    · exact Sx.ZsK (fun h => (g1_0 h).1) k1_0) (by
    simp only [Sx.okL, Sx.SVal.ok, Sx.Zbx, Sx.Chunk.ok, Sx.ZmO, Sx.PlanV.cs, and_true, true_and, Sx.PlanV.cs]
    exact ⟨by simp, g1_0⟩)
  simp only [Sx.Zbf, Sx.SVal.conc, Sx.SAddr.conc, Sx.Zae, Sx.Chunk.conc, Sx.ZmO, List.append_nil, List.getElem?_cons_zero, List.getElem?_cons_succ, Nat.zero_mul, Nat.add_zero, List.cons_append, List.nil_append] at h ⊢
  refine h.mono fun e W' ⟨he, hw⟩ => ?_
  subst he
  exact ⟨_, rfl, Sx.ZsW hW' rfl hw Try.laidOut ZwH rfl ZAZ Try.underlying4⟩
theorem Zs8 : Try.checked.prog.funcNamed Rows.flatFrontRow.func = some 6 := by kernel_rfl
theorem ZwJ : Try.f6.isInstance Try.checked.prog Rows.flatFrontRow.origin Rows.flatFrontRow.targs := (of_decide_eq_true (by kernel_rfl))
theorem ZwG : Try.f6.isWrapper Try.checked.prog Rows.flatFrontRow.wrapper Rows.flatFrontRow.mainSum := (by unfold Func.isWrapper; first | (rw [if_pos (by decide +kernel)]; kernel_rfl) | (rw [if_neg (by decide +kernel)]; exact ⟨rfl, rfl⟩))
theorem flatFront_holds : Rows.FlatFrontSaid :=
  OpenClaim.holds_of_wide 6 Try.f6 rfl rfl rfl rfl rfl rfl rfl ⟨rfl, rfl, rfl, rfl, rfl⟩ rfl rfl rfl rfl rfl Zs8 Try.func6 ZrR
    ZwJ ZwG
    (fun os started H enc _ => flatFront_lifted os started H enc)
end Go.Proofs.Ytinjdimejijabaa
