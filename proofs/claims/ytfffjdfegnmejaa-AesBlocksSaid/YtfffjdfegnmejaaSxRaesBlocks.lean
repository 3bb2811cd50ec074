/- Two parts of the proof. -/
import Derived.Test.YtfffjdfegnmejaaSxRowA
import Derived.Test.YtfffjdfegnmejaaSxLBlocks
set_option linter.unusedVariables false
set_option linter.unusedSimpArgs false
namespace Go.Proofs.Ytfffjdfegnmejaa
theorem ZxB : (Rows.aesBlocksRow.lifted == Try.prog.liftsFinal) = true := by rw [Zs5]; rfl
theorem ZEB : (Try.prog.make == some Rows.aesBlocksRow.make) = true := by rw [ZuW]; rfl
set_option maxHeartbeats 4000000 in
theorem Ztc : joinedFacts Try.prog 3 Try.f3 Rows.aesBlocksSpec Rows.aesBlocksRow = true := by
  simp only [joinedFacts, Bool.and_eq_true]
  repeat' apply And.intro
  all_goals first | (with_reducible exact Zlw) | (with_reducible exact ZxB) | (with_reducible exact ZEB) | (as_aux_lemma => kernel_rfl)
theorem ZxC : joinedFacts Try.checked.prog 3 Try.f3 Rows.aesBlocksSpec Rows.aesBlocksRow = true := Ztc
end Go.Proofs.Ytfffjdfegnmejaa

namespace Go.Proofs.Ytfffjdfegnmejaa
open Go.ChangeShapes Go.WideShapes Go.ChangeAt Go.RowKit Go.Sx
theorem ZEA : (Try.f3.params.toList.all fun t => Try.prog.readableRec t && decide (t < Try.prog.types.size)) = true := by kernel_rfl
theorem ZLv : Try.f3.resultTypes = #[4] := by kernel_rfl
set_option maxRecDepth 100000 in
theorem aesBlocks_lifted (os : Os) (started : os.Started) (H : Type) (enc : TypeId × Value -> H) :
    ReturnsInHanded {} Try.checked os 3 .any (Rows.aesBlocksSpec.pre6 enc Try.prog Try.f3 Rows.aesBlocksRow.domain false) (Rows.aesBlocksSpec.post enc Try.prog Try.f3 false true false false) := by
  refine returnsInHanded_of_change (C := Try.checked) Try.own started (by kernel_rfl) Try.func3
    (ChangeSpec.witness6 (enc := enc) (C := Try.checked) false ⟨#[], #[.agg #[.int .u8 0, .int .u8 0, .int .u8 0, .int .u8 0, .int .u8 0, .int .u8 0, .int .u8 0, .int .u8 0, .int .u8 0, .int .u8 0, .int .u8 0, .int .u8 0, .int .u8 0, .int .u8 0, .int .u8 0, .int .u8 0], .agg #[.int .u8 0, .int .u8 0, .int .u8 0, .int .u8 0, .int .u8 0, .int .u8 0, .int .u8 0, .int .u8 0, .int .u8 0, .int .u8 0, .int .u8 0, .int .u8 0, .int .u8 0, .int .u8 0, .int .u8 0, .int .u8 0]], []⟩ 8 (by kernel_rfl) (by kernel_rfl) (by kernel_rfl) (by kernel_rfl)) ?_
  intro W base args ds gs before hval0 hW hcnd _
  have hval : ∀ (j : Nat) t v, Try.f3.params[j]? = some t -> args[j]? = some v -> Value.okWide Try.prog W .any base t v := hval0
  have hW' := hW
  obtain ⟨p, q, hA0, hV, rfl, hfz, hnd⟩ := hW
  have hA : DataW.TrodAll enc Try.prog W 0 (fun _ => true) true Try.f3.params.toList args.toList ds p := hA0
  rw [Try.params3] at hA hval
  obtain ⟨v0, vs0, d0, ds0, p0, q0, hv0, rfl, rfl, h0, hr0⟩ := trodAll_cons hA
  obtain ⟨v1, vs1, d1, ds1, p1, q1, hv1, rfl, rfl, h1, hr1⟩ := trodAll_cons hr0
  obtain ⟨rfl, rfl, rfl⟩ := trodAll_nil hr1
  subst hv1
  have hargs : args = #[v0, v1] := by have := congrArg List.toArray hv0; simpa using this
  subst hargs
  clear hv0
  obtain ⟨rfl, rfl⟩ := trodVars_none hV
  obtain ⟨cs0, rfl, k0⟩ := Sx.ZkG Zim Zit ZkM Zk5 (hval 0 23 v0 rfl rfl) h0
  obtain ⟨x0, rfl, w0⟩ := Zjt (fun _ => none) k0
  obtain ⟨cs1, rfl, k1⟩ := Sx.ZkG Zim Zit ZkM Zk5 (hval 1 23 v1 rfl rfl) h1
  obtain ⟨x1, rfl, w1⟩ := Zjt (fun _ => none) k1
  have hP : Zh6 [.agg [.ints .u8 16 x0], .agg [.ints .u8 16 x1]] = some ((Zaz x0 /\ Zaz x1), .bool true) := by kernel_rfl
  have h := Sx.ZoQ (W := W) (args := [.agg [.ints .u8 16 x0], .agg [.ints .u8 16 x1]]) ZsY (Sx.Zy2 hP ⟨w0, w1⟩ rfl) (Sx.ZgG (by kernel_rfl)).1
  simp only [Sx.ZaH, Sx.SVal.conc, Sx.Zab, Sx.Chunk.conc, List.append_nil] at h ⊢
  refine h.mono fun e W' ⟨he, hw⟩ => ?_
  subst he
  exact ⟨_, rfl, Sx.Zzg hW' rfl hw Try.laidOut ZEA rfl ZLv Try.underlying4⟩
theorem Zzr : Try.checked.prog.funcNamed Rows.aesBlocksRow.func = some 3 := by kernel_rfl
theorem ZEC : Try.f3.isInstance Try.checked.prog Rows.aesBlocksRow.origin Rows.aesBlocksRow.targs := (of_decide_eq_true (by kernel_rfl))
theorem ZEz : Try.f3.isWrapper Try.checked.prog Rows.aesBlocksRow.wrapper Rows.aesBlocksRow.mainSum := (by unfold Func.isWrapper; first | (rw [if_pos (by decide +kernel)]; kernel_rfl) | (rw [if_neg (by decide +kernel)]; exact ⟨rfl, rfl⟩))
theorem aesBlocks_holds : Rows.AesBlocksSaid :=
  OpenClaim.holds_of_wide 3 Try.f3 rfl rfl rfl rfl rfl rfl rfl ⟨rfl, rfl, rfl, rfl, rfl⟩ rfl rfl rfl rfl rfl Zzr Try.func3 ZxC
    ZEC ZEz
    (fun os started H enc _ => aesBlocks_lifted os started H enc)
end Go.Proofs.Ytfffjdfegnmejaa
