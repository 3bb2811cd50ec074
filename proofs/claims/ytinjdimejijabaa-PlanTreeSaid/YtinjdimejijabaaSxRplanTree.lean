/- Two parts of the proof. -/
import Derived.Test.YtinjdimejijabaaSxRowA
import Derived.Test.YtinjdimejijabaaSxFitT
set_option linter.unusedVariables false
set_option linter.unusedSimpArgs false
namespace Go.Proofs.Ytinjdimejijabaa
theorem Zja : (Rows.planTreeRow.lifted == Try.prog.liftsFinal) = true := by rw [Zh9]; rfl
theorem Zk0 : (Try.prog.make == some Rows.planTreeRow.make) = true := by rw [ZiT]; rfl
set_option maxHeartbeats 4000000 in
theorem Zii : joinedFacts Try.prog 3 Try.f3 Rows.planTreeSpec Rows.planTreeRow = true := by
  simp only [joinedFacts, Bool.and_eq_true]
  repeat' apply And.intro
  all_goals first | (with_reducible exact ZfR) | (with_reducible exact Zja) | (with_reducible exact Zk0) | (as_aux_lemma => kernel_rfl)
theorem Zjb : joinedFacts Try.checked.prog 3 Try.f3 Rows.planTreeSpec Rows.planTreeRow = true := Zii
end Go.Proofs.Ytinjdimejijabaa

namespace Go.Proofs.Ytinjdimejijabaa
open Go.ChangeShapes Go.WideShapes Go.ChangeAt Go.RowKit Go.Sx
theorem ZkZ : (Try.f3.params.toList.all fun t => Try.prog.readableRec t && decide (t < Try.prog.types.size)) = true := by kernel_rfl
theorem ZmB : Try.f3.resultTypes = #[4] := by kernel_rfl
set_option maxRecDepth 100000 in
theorem planTree_lifted (os : Os) (started : os.Started) (H : Type) (enc : TypeId × Value -> H) :
    ReturnsInHanded {} Try.checked os 3 .any (Rows.planTreeSpec.pre6 enc Try.prog Try.f3 Rows.planTreeRow.domain false) (Rows.planTreeSpec.post enc Try.prog Try.f3 false true false false) := by
  refine returnsInHanded_of_change (C := Try.checked) Try.own started (by kernel_rfl) Try.func3
    (ChangeSpec.witness6 (enc := enc) (C := Try.checked) false ⟨#[], #[.agg #[.int .i64 0, .int .i64 0, .int .i64 0, .int .i64 0, .int .i64 0, .int .i64 0, .int .u64 0, .int .i64 0, .int .i64 0, .int .i64 0, .int .i64 0, .int .i64 0, .int .i64 0, .int .i64 0, .int .u8 0, .int .u8 0, .int .u8 0, .int .u8 0, .int .u8 0, .int .u8 0, .int .u8 0, .int .u8 0, .int .u8 0, .int .u8 0, .int .u8 0, .int .u8 0, .int .u8 0, .int .u8 0, .int .u8 0, .int .u8 0, .int .u8 0, .int .u8 0, .int .u8 0, .int .u8 0, .int .u8 0, .int .u8 0, .int .u8 0, .int .u8 0, .int .u8 0, .int .u8 0, .int .u8 0, .int .u8 0, .int .u8 0, .int .u8 0, .int .u8 0, .int .u8 0]], []⟩ 8 (by kernel_rfl) (by kernel_rfl) (by kernel_rfl) (by kernel_rfl)) ?_
  intro W base args ds gs before hval0 hW hcnd _
  have hval : ∀ (j : Nat) t v, Try.f3.params[j]? = some t -> args[j]? = some v -> Value.okWide Try.prog W .any base t v := hval0
  have hW' := hW
  obtain ⟨p, q, hA0, hV, rfl, hfz, hnd⟩ := hW
  have hA : DataW.TrodAll enc Try.prog W 0 (fun _ => true) true Try.f3.params.toList args.toList ds p := hA0
  rw [Try.params3] at hA hval
  obtain ⟨v0, vs0, d0, ds0, p0, q0, hv0, rfl, rfl, h0, hr0⟩ := trodAll_cons hA
  obtain ⟨rfl, rfl, rfl⟩ := trodAll_nil hr0
  have hargs : args = #[v0] := by have := congrArg List.toArray hv0; simpa using this
  subst hargs
  clear hv0
  obtain ⟨rfl, rfl⟩ := trodVars_none hV
  obtain ⟨cs0, rfl, k0⟩ := Sx.Zid Zig Zil ZjT Zj5 (hval 0 28 v0 rfl rfl) h0
  obtain ⟨x0, rfl, w0⟩ := Zi1 (fun _ => none) k0
  have hP : Zff [.agg (Sx.PlanV.cs x0)] = some ((PlanV.Wf x0), .bool true) := by kernel_rfl
  have h := Sx.Zg5 (W := W) (args := [.agg (Sx.PlanV.cs x0)]) ZiL (Sx.ZjN hP w0 rfl) (Sx.ZdW (by kernel_rfl)).1
  simp only [Sx.Zap, Sx.SVal.conc, Sx.Zab, Sx.Chunk.conc, List.append_nil] at h ⊢
  refine h.mono fun e W' ⟨he, hw⟩ => ?_
  subst he
  exact ⟨_, rfl, Sx.ZjS hW' rfl hw Try.laidOut ZkZ rfl ZmB Try.underlying4⟩
theorem ZjZ : Try.checked.prog.funcNamed Rows.planTreeRow.func = some 3 := by kernel_rfl
theorem Zk1 : Try.f3.isInstance Try.checked.prog Rows.planTreeRow.origin Rows.planTreeRow.targs := (of_decide_eq_true (by kernel_rfl))
theorem ZkY : Try.f3.isWrapper Try.checked.prog Rows.planTreeRow.wrapper Rows.planTreeRow.mainSum := (by unfold Func.isWrapper; first | (rw [if_pos (by decide +kernel)]; kernel_rfl) | (rw [if_neg (by decide +kernel)]; exact ⟨rfl, rfl⟩))
theorem planTree_holds : Rows.PlanTreeSaid :=
  OpenClaim.holds_of_wide 3 Try.f3 rfl rfl rfl rfl rfl rfl rfl ⟨rfl, rfl, rfl, rfl, rfl⟩ rfl rfl rfl rfl rfl ZjZ Try.func3 Zjb
    Zk1 ZkY
    (fun os started H enc _ => planTree_lifted os started H enc)
end Go.Proofs.Ytinjdimejijabaa
