/- Two parts of the proof. -/
import Derived.Test.YtinjdimejijabaaRows
import Derived.ProofKit
import Derived.Test.YtinjdimejijabaaSxPlan
import Derived.Test.YtinjdimejijabaaSxRow
import Derived.Test.YtinjdimejijabaaSxRegion
import Derived.Test.YtinjdimejijabaaSxOpW
import Derived.Test.YtinjdimejijabaaSxFlat
import Derived.Test.YtinjdimejijabaaSxRow2
import Derived.Test.YtinjdimejijabaaSxLDoes
set_option linter.unusedVariables false
set_option linter.unusedSimpArgs false
namespace Go.Proofs.Ytinjdimejijabaa
theorem ZxD : Try.prog.make = some .cut := by kernel_rfl
theorem ZtK : Try.prog.liftsFinal = false := by kernel_rfl
theorem Zmb : Try.prog.mayEnter = true := by kernel_rfl
end Go.Proofs.Ytinjdimejijabaa

namespace Go.Sx
theorem Zeb {n : Int} (h : (Lit.int .i64 n).wf = true) : I64 n := by
  simp only [Lit.wf, Bool.and_eq_true, decide_eq_true_eq, IntKind.min, IntKind.max, IntKind.signed, IntKind.bits] at h
  unfold I64; simp at h; omega
theorem Zul {n : Int} (h : (Lit.int .u64 n).wf = true) : 0 <= n /\ n < 2 ^ 64 := by
  simp only [Lit.wf, Bool.and_eq_true, IntKind.min, IntKind.max, IntKind.signed, IntKind.bits] at h
  simp at h; omega
end Go.Sx

namespace Go.Proofs.Ytinjdimejijabaa
theorem Try.own : ownKnob Try.prog.godebug = none := by kernel_rfl
theorem Try.laidOut : laidOutB Try.prog = true := by kernel_rfl
theorem ZxJ (ρ : Sx.Rho) {cs : List Value} (h0 : Sx.ZfF (some .i64 :: (some .i64 :: (some .i64 :: (some .i64 :: (some .i64 :: (some .i64 :: (some .u64 :: (some .i64 :: (some .i64 :: (some .i64 :: (some .i64 :: (some .i64 :: (some .i64 :: (some .i64 :: (List.replicate 16 (some .u8) ++ (List.replicate 16 (some .u8) ++ [])))))))))))))))) cs) : ∃ x : Sx.PlanV, cs = Sx.Zal ρ x.cs /\ x.Wf := by
  obtain ⟨_, cs, rfl, ⟨n0, rfl, w0⟩, h1⟩ := Sx.ZbF h0
  obtain ⟨_, cs, rfl, ⟨n1, rfl, w1⟩, h2⟩ := Sx.ZbF h1
  obtain ⟨_, cs, rfl, ⟨n2, rfl, w2⟩, h3⟩ := Sx.ZbF h2
  obtain ⟨_, cs, rfl, ⟨n3, rfl, w3⟩, h4⟩ := Sx.ZbF h3
  obtain ⟨_, cs, rfl, ⟨n4, rfl, w4⟩, h5⟩ := Sx.ZbF h4
  obtain ⟨_, cs, rfl, ⟨n5, rfl, w5⟩, h6⟩ := Sx.ZbF h5
  obtain ⟨_, cs, rfl, ⟨n6, rfl, w6⟩, h7⟩ := Sx.ZbF h6
  obtain ⟨_, cs, rfl, ⟨n7, rfl, w7⟩, h8⟩ := Sx.ZbF h7
  obtain ⟨_, cs, rfl, ⟨n8, rfl, w8⟩, h9⟩ := Sx.ZbF h8
  obtain ⟨_, cs, rfl, ⟨n9, rfl, w9⟩, h10⟩ := Sx.ZbF h9
  obtain ⟨_, cs, rfl, ⟨n10, rfl, w10⟩, h11⟩ := Sx.ZbF h10
  obtain ⟨_, cs, rfl, ⟨n11, rfl, w11⟩, h12⟩ := Sx.ZbF h11
  obtain ⟨_, cs, rfl, ⟨n12, rfl, w12⟩, h13⟩ := Sx.ZbF h12
  obtain ⟨_, cs, rfl, ⟨n13, rfl, w13⟩, h14⟩ := Sx.ZbF h13
  obtain ⟨n14, cs, rfl, l14, w14, h15⟩ := Sx.ZfE h14
  obtain ⟨n15, cs, rfl, l15, w15, h16⟩ := Sx.ZfE h15
  obtain rfl := Sx.ZgM h16
  exact ⟨⟨n0, n1, n2, n3, n4, n5, n6, n7, n8, n9, n10, n11, n12, n13, n14, n15⟩, by simp [Sx.PlanV.cs, Sx.Zal, Sx.Chunk.conc, Sx.SVal.conc], Sx.Zeb w0, Sx.Zeb w1, Sx.Zeb w2, Sx.Zeb w3, Sx.Zeb w4, Sx.Zeb w5, Sx.Zul w6, Sx.Zeb w7, Sx.Zeb w8, Sx.Zeb w9, Sx.Zeb w10, Sx.Zeb w11, Sx.Zeb w12, Sx.Zeb w13, l14, l15⟩
theorem ZtU : Sx.Zcp Try.prog 8 28 = some (some .i64 :: (some .i64 :: (some .i64 :: (some .i64 :: (some .i64 :: (some .i64 :: (some .u64 :: (some .i64 :: (some .i64 :: (some .i64 :: (some .i64 :: (some .i64 :: (some .i64 :: (some .i64 :: (List.replicate 16 (some .u8) ++ (List.replicate 16 (some .u8) ++ [])))))))))))))))) := by kernel_rfl
theorem Zt7 : ((some .i64 :: (some .i64 :: (some .i64 :: (some .i64 :: (some .i64 :: (some .i64 :: (some .u64 :: (some .i64 :: (some .i64 :: (some .i64 :: (some .i64 :: (some .i64 :: (some .i64 :: (some .i64 :: (List.replicate 16 (some .u8) ++ (List.replicate 16 (some .u8) ++ [])))))))))))))))) : List (Option IntKind)).length = Try.prog.cellsOf 28 := by kernel_rfl
theorem ZAB : Try.prog.keyTypeAt 8 28 = true := by kernel_rfl
theorem ZA8 : Sx.ZkQ Try.prog 28 = true := by kernel_rfl
end Go.Proofs.Ytinjdimejijabaa

namespace Go.Sx
theorem ZxI {l : List (Tup Zau)} (h : ∀ x ∈ l, Tup.wf Zau x) : ZBc l := fun x hx => by
  obtain ⟨h1, h2, h3, h4, h5⟩ := h x hx
  exact ⟨Zeb h1, Zeb h2, Zeb h3, Zul h4, Zul h5⟩
end Go.Sx

namespace Go.Proofs.Ytinjdimejijabaa
theorem Zym : (Rows.flatDoesRow.lifted == Try.prog.liftsFinal) = true := by rw [ZtK]; rfl
theorem ZF8 : (Try.prog.make == some Rows.flatDoesRow.make) = true := by rw [ZxD]; rfl
set_option maxHeartbeats 4000000 in
theorem ZtX : joinedFacts Try.prog 7 Try.f7 Rows.flatDoesSpec Rows.flatDoesRow = true := by
  simp only [joinedFacts, Bool.and_eq_true]
  repeat' apply And.intro
  all_goals first | (with_reducible exact Zmb) | (with_reducible exact Zym) | (with_reducible exact ZF8) | (as_aux_lemma => kernel_rfl)
theorem Zyn : joinedFacts Try.checked.prog 7 Try.f7 Rows.flatDoesSpec Rows.flatDoesRow = true := ZtX
end Go.Proofs.Ytinjdimejijabaa

namespace Go.Proofs.Ytinjdimejijabaa
open Go.ChangeShapes Go.WideShapes Go.ChangeAt Go.RowKit Go.Sx
theorem ZF7 : (Try.f7.params.toList.all fun t => Try.prog.readableRec t && decide (t < Try.prog.types.size)) = true := by kernel_rfl
theorem ZMD : Try.f7.resultTypes = #[4] := by kernel_rfl
theorem ZkX : Sx.Zsl Try.prog 8 51 = some [.rw [.int .i64, .int .i64, .int .i64, .int .u64, .int .u64]] := by kernel_rfl
theorem ZkZ : Sx.ZkQ Try.prog 51 = false := by kernel_rfl
set_option maxRecDepth 100000 in
theorem flatDoes_lifted (os : Os) (started : os.Started) (H : Type) (enc : TypeId × Value -> H) :
    ReturnsInHanded {} Try.checked os 7 .any (Rows.flatDoesSpec.pre6 enc Try.prog Try.f7 Rows.flatDoesRow.domain false) (Rows.flatDoesSpec.post enc Try.prog Try.f7 false true false false) := by
  refine returnsInHanded_of_change (C := Try.checked) Try.own started (by kernel_rfl) Try.func7
    (ChangeSpec.witness6 (enc := enc) (C := Try.checked) false ⟨#[], #[.agg #[.int .i64 0, .int .i64 0, .int .i64 0, .int .i64 0, .int .i64 0, .int .i64 0, .int .u64 0, .int .i64 0, .int .i64 0, .int .i64 0, .int .i64 0, .int .i64 0, .int .i64 0, .int .i64 0, .int .u8 0, .int .u8 0, .int .u8 0, .int .u8 0, .int .u8 0, .int .u8 0, .int .u8 0, .int .u8 0, .int .u8 0, .int .u8 0, .int .u8 0, .int .u8 0, .int .u8 0, .int .u8 0, .int .u8 0, .int .u8 0, .int .u8 0, .int .u8 0, .int .u8 0, .int .u8 0, .int .u8 0, .int .u8 0, .int .u8 0, .int .u8 0, .int .u8 0, .int .u8 0, .int .u8 0, .int .u8 0, .int .u8 0, .int .u8 0, .int .u8 0, .int .u8 0], .slice none 0 0, .int .i64 0], []⟩ 8 (by kernel_rfl) (by kernel_rfl) (by kernel_rfl) (by kernel_rfl)) ?_
  intro W base args ds gs before hval0 hW hcnd _
  have hval : ∀ (j : Nat) t v, Try.f7.params[j]? = some t -> args[j]? = some v -> Value.okWide Try.prog W .any base t v := hval0
  have hW' := hW
  obtain ⟨p, q, hA0, hV, rfl, hfz, hnd⟩ := hW
  have hA : DataW.TrodAll enc Try.prog W 0 (fun _ => true) true Try.f7.params.toList args.toList ds p := hA0
  rw [Try.params7] at hA hval
  obtain ⟨v0, vs0, d0, ds0, p0, q0, hv0, rfl, rfl, h0, hr0⟩ := trodAll_cons hA
  obtain ⟨v1, vs1, d1, ds1, p1, q1, hv1, rfl, rfl, h1, hr1⟩ := trodAll_cons hr0
  obtain ⟨v2, vs2, d2, ds2, p2, q2, hv2, rfl, rfl, h2, hr2⟩ := trodAll_cons hr1
  obtain ⟨rfl, rfl, rfl⟩ := trodAll_nil hr2
  subst hv1
  subst hv2
  have hargs : args = #[v0, v1, v2] := by have := congrArg List.toArray hv0; simpa using this
  subst hargs
  clear hv0
  obtain ⟨rfl, rfl⟩ := trodVars_none hV
  obtain ⟨cs0, rfl, k0⟩ := Sx.ZtP ZtU Zt7 ZAB ZA8 (hval 0 28 v0 rfl rfl) h0
  obtain ⟨x0, rfl, w0⟩ := ZxJ (fun _ => none) k0
  have sp1 := fun a l c => Sx.ZtD (a := a) (l := l) (c := c) (hval 1 51 v1 rfl rfl)
  have at1 := Sx.ZA4 (l := [.rw [.int .i64, .int .i64, .int .i64, .int .u64, .int .u64]]) (m := 8) ZkX (by kernel_rfl) h1
  have ce1 := Sx.ZAs ZkZ (hval 1 51 v1 rfl rfl)
  rw [ce1] at sp1 at1
  clear ce1
  obtain ⟨_, t1_0, e1_0, ⟨q1_0, l1_0, c1_0, x1_0, rfl, i1_0, o1_0, w1_0⟩, a1_0⟩ := at1
  obtain rfl : t1_0 = [] := a1_0
  simp only [List.cons_append, List.nil_append, List.cons.injEq, and_true] at e1_0
  subst e1_0
  obtain ⟨r1_0, rfl, g1_0, m1_0, M1_0, e1_0, k1_0⟩ := Sx.ZzN o1_0 fun a ha => sp1 a l1_0 c1_0 (by rw [ha]; simp)
  obtain ⟨n2, rfl, rfl, rfl, w2⟩ := open_int Try.underlying3 (hval 2 3 v2 rfl rfl) h2
  have hP : ZkP [.agg (Sx.PlanV.cs x0), .slice ⟨0, 0, 0, 5⟩ l1_0 c1_0, .int .i64 n2] ⟨1, Sx.Zkb 0 [(r1_0, [.rows Zau l1_0 x1_0])]⟩ = some (l1_0 = l1_0 /\ (PlanV.Wf x0 /\ (ZBc x1_0 /\ List.length x1_0 = l1_0 /\ l1_0 <= c1_0) /\ I64 n2), fun K => K (.bool true) ⟨1, Sx.Zkb 0 [(r1_0, [.rows Zau l1_0 x1_0])]⟩) := by kernel_rfl
  have h := Sx.ZtG (W := W) (args := [.agg (Sx.PlanV.cs x0), .slice ⟨0, 0, 0, 5⟩ l1_0 c1_0, .int .i64 n2]) [(r1_0, [.rows Zau l1_0 x1_0])] Zxt (Sx.ZNZ hP ⟨rfl, w0, ⟨Sx.ZxI w1_0, i1_0, m1_0⟩, Sx.Zeb w2⟩ rfl) (by
    simp only [List.mem_cons, List.not_mem_nil, or_false]
    rintro e rfl
    · exact Sx.ZzM (fun h => (g1_0 h).1) k1_0) (by
    simp only [Sx.okL, Sx.SVal.ok, Sx.ZbK, Sx.Chunk.ok, Sx.ZqK, Sx.PlanV.cs, and_true, true_and, Sx.PlanV.cs]
    exact ⟨by simp, g1_0⟩)
  simp only [Sx.Zbz, Sx.SVal.conc, Sx.SAddr.conc, Sx.Zal, Sx.Chunk.conc, Sx.ZqK, List.append_nil, List.getElem?_cons_zero, List.getElem?_cons_succ, Nat.zero_mul, Nat.add_zero, List.cons_append, List.nil_append] at h ⊢
  refine h.mono fun e W' ⟨he, hw⟩ => ?_
  subst he
  exact ⟨_, rfl, Sx.ZAA hW' rfl hw Try.laidOut ZF7 rfl ZMD Try.underlying4⟩
theorem ZAM : Try.checked.prog.funcNamed Rows.flatDoesRow.func = some 7 := by kernel_rfl
theorem ZF9 : Try.f7.isInstance Try.checked.prog Rows.flatDoesRow.origin Rows.flatDoesRow.targs := (of_decide_eq_true (by kernel_rfl))
theorem ZF6 : Try.f7.isWrapper Try.checked.prog Rows.flatDoesRow.wrapper Rows.flatDoesRow.mainSum := (by unfold Func.isWrapper; first | (rw [if_pos (by decide +kernel)]; kernel_rfl) | (rw [if_neg (by decide +kernel)]; exact ⟨rfl, rfl⟩))
theorem flatDoes_holds : Rows.FlatDoesSaid :=
  OpenClaim.holds_of_wide 7 Try.f7 rfl rfl rfl rfl rfl rfl rfl ⟨rfl, rfl, rfl, rfl, rfl⟩ rfl rfl rfl rfl rfl ZAM Try.func7 Zyn
    ZF9 ZF6
    (fun os started H enc _ => flatDoes_lifted os started H enc)
end Go.Proofs.Ytinjdimejijabaa
