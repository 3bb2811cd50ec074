/- Two parts of the proof. -/
import Derived.Test.YtinjdimejijabaaRows
import Derived.ProofKit
import Derived.Test.YtinjdimejijabaaSxPlan
import Derived.Test.YtinjdimejijabaaSxRow
import Derived.Test.YtinjdimejijabaaSxRegion
import Derived.Test.YtinjdimejijabaaSxOpW
import Derived.Test.YtinjdimejijabaaSxFlat
import Derived.Test.YtinjdimejijabaaSxRow2
import Derived.Test.YtinjdimejijabaaSxLChecks
set_option linter.unusedVariables false
set_option linter.unusedSimpArgs false
namespace Go.Proofs.Ytinjdimejijabaa
theorem Zw7 : Try.prog.make = some .cut := by kernel_rfl
theorem ZuA : Try.prog.liftsFinal = false := by kernel_rfl
theorem ZmW : Try.prog.mayEnter = true := by kernel_rfl
end Go.Proofs.Ytinjdimejijabaa

namespace Go.Sx
theorem ZdY {n : Int} (h : (Lit.int .i64 n).wf = true) : I64 n := by
  simp only [Lit.wf, Bool.and_eq_true, decide_eq_true_eq, IntKind.min, IntKind.max, IntKind.signed, IntKind.bits] at h
  unfold I64; simp at h; omega
theorem ZsT {n : Int} (h : (Lit.int .u64 n).wf = true) : 0 <= n /\ n < 2 ^ 64 := by
  simp only [Lit.wf, Bool.and_eq_true, IntKind.min, IntKind.max, IntKind.signed, IntKind.bits] at h
  simp at h; omega
end Go.Sx

namespace Go.Proofs.Ytinjdimejijabaa
theorem Try.own : ownKnob Try.prog.godebug = none := by kernel_rfl
theorem Try.laidOut : laidOutB Try.prog = true := by kernel_rfl
theorem Zxc (ρ : Sx.Rho) {cs : List Value} (h0 : Sx.Zf2 (some .i64 :: (some .i64 :: (some .i64 :: (some .i64 :: (some .i64 :: (some .i64 :: (some .u64 :: (some .i64 :: (some .i64 :: (some .i64 :: (some .i64 :: (some .i64 :: (some .i64 :: (some .i64 :: (List.replicate 16 (some .u8) ++ (List.replicate 16 (some .u8) ++ [])))))))))))))))) cs) : ∃ x : Sx.PlanV, cs = Sx.Zam ρ x.cs /\ x.Wf := by
  obtain ⟨_, cs, rfl, ⟨n0, rfl, w0⟩, h1⟩ := Sx.ZbK h0
  obtain ⟨_, cs, rfl, ⟨n1, rfl, w1⟩, h2⟩ := Sx.ZbK h1
  obtain ⟨_, cs, rfl, ⟨n2, rfl, w2⟩, h3⟩ := Sx.ZbK h2
  obtain ⟨_, cs, rfl, ⟨n3, rfl, w3⟩, h4⟩ := Sx.ZbK h3
  obtain ⟨_, cs, rfl, ⟨n4, rfl, w4⟩, h5⟩ := Sx.ZbK h4
  obtain ⟨_, cs, rfl, ⟨n5, rfl, w5⟩, h6⟩ := Sx.ZbK h5
  obtain ⟨_, cs, rfl, ⟨n6, rfl, w6⟩, h7⟩ := Sx.ZbK h6
  obtain ⟨_, cs, rfl, ⟨n7, rfl, w7⟩, h8⟩ := Sx.ZbK h7
  obtain ⟨_, cs, rfl, ⟨n8, rfl, w8⟩, h9⟩ := Sx.ZbK h8
  obtain ⟨_, cs, rfl, ⟨n9, rfl, w9⟩, h10⟩ := Sx.ZbK h9
  obtain ⟨_, cs, rfl, ⟨n10, rfl, w10⟩, h11⟩ := Sx.ZbK h10
  obtain ⟨_, cs, rfl, ⟨n11, rfl, w11⟩, h12⟩ := Sx.ZbK h11
  obtain ⟨_, cs, rfl, ⟨n12, rfl, w12⟩, h13⟩ := Sx.ZbK h12
  obtain ⟨_, cs, rfl, ⟨n13, rfl, w13⟩, h14⟩ := Sx.ZbK h13
  obtain ⟨n14, cs, rfl, l14, w14, h15⟩ := Sx.Zf1 h14
  obtain ⟨n15, cs, rfl, l15, w15, h16⟩ := Sx.Zf1 h15
  obtain rfl := Sx.Zhc h16
  exact ⟨⟨n0, n1, n2, n3, n4, n5, n6, n7, n8, n9, n10, n11, n12, n13, n14, n15⟩, by simp [Sx.PlanV.cs, Sx.Zam, Sx.Chunk.conc, Sx.SVal.conc], Sx.ZdY w0, Sx.ZdY w1, Sx.ZdY w2, Sx.ZdY w3, Sx.ZdY w4, Sx.ZdY w5, Sx.ZsT w6, Sx.ZdY w7, Sx.ZdY w8, Sx.ZdY w9, Sx.ZdY w10, Sx.ZdY w11, Sx.ZdY w12, Sx.ZdY w13, l14, l15⟩
theorem ZuI : Sx.ZcA Try.prog 8 28 = some (some .i64 :: (some .i64 :: (some .i64 :: (some .i64 :: (some .i64 :: (some .i64 :: (some .u64 :: (some .i64 :: (some .i64 :: (some .i64 :: (some .i64 :: (some .i64 :: (some .i64 :: (some .i64 :: (List.replicate 16 (some .u8) ++ (List.replicate 16 (some .u8) ++ [])))))))))))))))) := by kernel_rfl
theorem ZuX : ((some .i64 :: (some .i64 :: (some .i64 :: (some .i64 :: (some .i64 :: (some .i64 :: (some .u64 :: (some .i64 :: (some .i64 :: (some .i64 :: (some .i64 :: (some .i64 :: (some .i64 :: (some .i64 :: (List.replicate 16 (some .u8) ++ (List.replicate 16 (some .u8) ++ [])))))))))))))))) : List (Option IntKind)).length = Try.prog.cellsOf 28 := by kernel_rfl
theorem ZAm : Try.prog.keyTypeAt 8 28 = true := by kernel_rfl
theorem ZAT : Sx.ZlN Try.prog 28 = true := by kernel_rfl
end Go.Proofs.Ytinjdimejijabaa

namespace Go.Sx
theorem ZuM {l : List (Tup Zaa)} (h : ∀ x ∈ l, Tup.wf Zaa x) : Zej l := fun x hx => by
  obtain ⟨h1, h2, h3, h4, h5, h6, h7, h8, _, h9⟩ := h x hx
  exact ⟨⟨ZdY h2, ZdY h3, ZdY h4, ZsT h5, ZsT h6⟩, ZdY h1, ZdY h7, ZdY h8, ZsT h9⟩
end Go.Sx

namespace Go.Proofs.Ytinjdimejijabaa
theorem Zx0 : (Rows.flatChecksRow.lifted == Try.prog.liftsFinal) = true := by rw [ZuA]; rfl
theorem ZGN : (Try.prog.make == some Rows.flatChecksRow.make) = true := by rw [Zw7]; rfl
set_option maxHeartbeats 4000000 in
theorem ZuL : joinedFacts Try.prog 8 Try.f8 Rows.flatChecksSpec Rows.flatChecksRow = true := by
  simp only [joinedFacts, Bool.and_eq_true]
  repeat' apply And.intro
  all_goals first | (with_reducible exact ZmW) | (with_reducible exact Zx0) | (with_reducible exact ZGN) | (as_aux_lemma => kernel_rfl)
theorem Zx1 : joinedFacts Try.checked.prog 8 Try.f8 Rows.flatChecksSpec Rows.flatChecksRow = true := ZuL
end Go.Proofs.Ytinjdimejijabaa

namespace Go.Proofs.Ytinjdimejijabaa
open Go.ChangeShapes Go.WideShapes Go.ChangeAt Go.RowKit Go.Sx
theorem ZGM : (Try.f8.params.toList.all fun t => Try.prog.readableRec t && decide (t < Try.prog.types.size)) = true := by kernel_rfl
theorem ZN1 : Try.f8.resultTypes = #[4] := by kernel_rfl
theorem Zj0 : Sx.ZsB Try.prog 8 55 = some [.rw [.int .i64, .int .i64, .int .i64, .int .i64, .int .u64, .int .u64, .int .i64, .int .i64, .bool, .int .u64]] := by kernel_rfl
theorem Zj1 : Sx.ZlN Try.prog 55 = false := by kernel_rfl
set_option maxRecDepth 100000 in
theorem flatChecks_lifted (os : Os) (started : os.Started) (H : Type) (enc : TypeId × Value -> H) :
    ReturnsInHanded {} Try.checked os 8 .any (Rows.flatChecksSpec.pre6 enc Try.prog Try.f8 Rows.flatChecksRow.domain false) (Rows.flatChecksSpec.post enc Try.prog Try.f8 false true false false) := by
  refine returnsInHanded_of_change (C := Try.checked) Try.own started (by kernel_rfl) Try.func8
    (ChangeSpec.witness6 (enc := enc) (C := Try.checked) false ⟨#[], #[.agg #[.int .i64 0, .int .i64 0, .int .i64 0, .int .i64 0, .int .i64 0, .int .i64 0, .int .u64 0, .int .i64 0, .int .i64 0, .int .i64 0, .int .i64 0, .int .i64 0, .int .i64 0, .int .i64 0, .int .u8 0, .int .u8 0, .int .u8 0, .int .u8 0, .int .u8 0, .int .u8 0, .int .u8 0, .int .u8 0, .int .u8 0, .int .u8 0, .int .u8 0, .int .u8 0, .int .u8 0, .int .u8 0, .int .u8 0, .int .u8 0, .int .u8 0, .int .u8 0, .int .u8 0, .int .u8 0, .int .u8 0, .int .u8 0, .int .u8 0, .int .u8 0, .int .u8 0, .int .u8 0, .int .u8 0, .int .u8 0, .int .u8 0, .int .u8 0, .int .u8 0, .int .u8 0], .slice none 0 0], []⟩ 8 (by kernel_rfl) (by kernel_rfl) (by kernel_rfl) (by kernel_rfl)) ?_
  intro W base args ds gs before hval0 hW hcnd _
  have hval : ∀ (j : Nat) t v, Try.f8.params[j]? = some t -> args[j]? = some v -> Value.okWide Try.prog W .any base t v := hval0
  have hW' := hW
  obtain ⟨p, q, hA0, hV, rfl, hfz, hnd⟩ := hW
  have hA : DataW.TrodAll enc Try.prog W 0 (fun _ => true) true Try.f8.params.toList args.toList ds p := hA0
  rw [Try.params8] at hA hval
  obtain ⟨v0, vs0, d0, ds0, p0, q0, hv0, rfl, rfl, h0, hr0⟩ := trodAll_cons hA
  obtain ⟨v1, vs1, d1, ds1, p1, q1, hv1, rfl, rfl, h1, hr1⟩ := trodAll_cons hr0
  obtain ⟨rfl, rfl, rfl⟩ := trodAll_nil hr1
  subst hv1
  have hargs : args = #[v0, v1] := by have := congrArg List.toArray hv0; simpa using this
  subst hargs
  clear hv0
  obtain ⟨rfl, rfl⟩ := trodVars_none hV
  obtain ⟨cs0, rfl, k0⟩ := Sx.ZuF ZuI ZuX ZAm ZAT (hval 0 28 v0 rfl rfl) h0
  obtain ⟨x0, rfl, w0⟩ := Zxc (fun _ => none) k0
  have sp1 := fun a l c => Sx.Zut (a := a) (l := l) (c := c) (hval 1 55 v1 rfl rfl)
  have at1 := Sx.ZAP (l := [.rw [.int .i64, .int .i64, .int .i64, .int .i64, .int .u64, .int .u64, .int .i64, .int .i64, .bool, .int .u64]]) (m := 8) Zj0 (by kernel_rfl) h1
  have ce1 := Sx.ZAb Zj1 (hval 1 55 v1 rfl rfl)
  rw [ce1] at sp1 at1
  clear ce1
  obtain ⟨_, t1_0, e1_0, ⟨q1_0, l1_0, c1_0, x1_0, rfl, i1_0, o1_0, w1_0⟩, a1_0⟩ := at1
  obtain rfl : t1_0 = [] := a1_0
  simp only [List.cons_append, List.nil_append, List.cons.injEq, and_true] at e1_0
  subst e1_0
  obtain ⟨r1_0, rfl, g1_0, m1_0, M1_0, e1_0, k1_0⟩ := Sx.Zzw o1_0 fun a ha => sp1 a l1_0 c1_0 (by rw [ha]; simp)
  have hP : Zie [.agg (Sx.PlanV.cs x0), .slice ⟨0, 0, 0, 10⟩ l1_0 c1_0] ⟨1, Sx.Zk8 0 [(r1_0, [.rows Zaa l1_0 x1_0])]⟩ = some (l1_0 = l1_0 /\ (PlanV.Wf x0 /\ Zej x1_0 /\ List.length x1_0 = l1_0 /\ l1_0 <= c1_0), fun K => K (.bool true) ⟨1, Sx.Zk8 0 [(r1_0, [.rows Zaa l1_0 x1_0])]⟩) := by kernel_rfl
  have h := Sx.Zuw (W := W) (args := [.agg (Sx.PlanV.cs x0), .slice ⟨0, 0, 0, 10⟩ l1_0 c1_0]) [(r1_0, [.rows Zaa l1_0 x1_0])] ZqI (Sx.ZPi hP ⟨rfl, w0, ⟨Sx.ZuM w1_0, i1_0, m1_0⟩⟩ rfl) (by
    simp only [List.mem_cons, List.not_mem_nil, or_false]
    rintro e rfl
    · exact Sx.Zzv (fun h => (g1_0 h).1) k1_0) (by
    simp only [Sx.okL, Sx.SVal.ok, Sx.ZbQ, Sx.Chunk.ok, Sx.ZqJ, Sx.PlanV.cs, and_true, true_and, Sx.PlanV.cs]
    exact ⟨by simp, g1_0⟩)
  simp only [Sx.ZbJ, Sx.SVal.conc, Sx.SAddr.conc, Sx.Zam, Sx.Chunk.conc, Sx.ZqJ, List.append_nil, List.getElem?_cons_zero, List.getElem?_cons_succ, Nat.zero_mul, Nat.add_zero, List.cons_append, List.nil_append] at h ⊢
  refine h.mono fun e W' ⟨he, hw⟩ => ?_
  subst he
  exact ⟨_, rfl, Sx.ZAl hW' rfl hw Try.laidOut ZGM rfl ZN1 Try.underlying4⟩
theorem ZAx : Try.checked.prog.funcNamed Rows.flatChecksRow.func = some 8 := by kernel_rfl
theorem ZGO : Try.f8.isInstance Try.checked.prog Rows.flatChecksRow.origin Rows.flatChecksRow.targs := (of_decide_eq_true (by kernel_rfl))
theorem ZGL : Try.f8.isWrapper Try.checked.prog Rows.flatChecksRow.wrapper Rows.flatChecksRow.mainSum := (by unfold Func.isWrapper; first | (rw [if_pos (by decide +kernel)]; kernel_rfl) | (rw [if_neg (by decide +kernel)]; exact ⟨rfl, rfl⟩))
theorem flatChecks_holds : Rows.FlatChecksSaid :=
  OpenClaim.holds_of_wide 8 Try.f8 rfl rfl rfl rfl rfl rfl rfl ⟨rfl, rfl, rfl, rfl, rfl⟩ rfl rfl rfl rfl rfl ZAx Try.func8 Zx1
    ZGO ZGL
    (fun os started H enc _ => flatChecks_lifted os started H enc)
end Go.Proofs.Ytinjdimejijabaa
