/- Two parts of the proof. -/
import Derived.Test.YtggpebgigddogaaRows
import Derived.ProofKit
import Derived.Test.YtggpebgigddogaaSxPlan
import Derived.Test.YtggpebgigddogaaSxRow
import Derived.Test.YtggpebgigddogaaSxRegion
import Derived.Test.YtggpebgigddogaaSxOpW
set_option linter.unusedVariables false
set_option linter.unusedSimpArgs false
namespace Go.Proofs.Ytggpebgigddogaa
theorem prog_make : Try.prog.make = some .cut := by kernel_rfl
theorem prog_lifts : Try.prog.liftsFinal = false := by kernel_rfl
theorem prog_mayEnter : Try.prog.mayEnter = true := by kernel_rfl
end Go.Proofs.Ytggpebgigddogaa

namespace Go.Sx
theorem wf_i64 {n : Int} (h : (Lit.int .i64 n).wf = true) : I64 n := by
  simp only [Lit.wf, Bool.and_eq_true, decide_eq_true_eq, IntKind.min, IntKind.max, IntKind.signed, IntKind.bits] at h
  unfold I64; simp at h; omega
theorem wf_u64 {n : Int} (h : (Lit.int .u64 n).wf = true) : 0 <= n /\ n < 2 ^ 64 := by
  simp only [Lit.wf, Bool.and_eq_true, IntKind.min, IntKind.max, IntKind.signed, IntKind.bits] at h
  simp at h; omega
theorem wf_u8 {n : Int} (h : (Lit.int .u8 n).wf = true) : 0 <= n /\ n < 256 := by
  simp only [Lit.wf, Bool.and_eq_true, IntKind.min, IntKind.max, IntKind.signed, IntKind.bits] at h
  simp at h; omega
end Go.Sx

namespace Go.Proofs.Ytggpebgigddogaa
theorem Try.own : ownKnob Try.prog.godebug = none := by kernel_rfl
theorem Try.laidOut : laidOutB Try.prog = true := by kernel_rfl
theorem open_Plan (ρ : Sx.Rho) {cs : List Value} (h0 : Sx.allKw (some .i64 :: (some .i64 :: (some .i64 :: (some .i64 :: (some .i64 :: (some .i64 :: (some .u64 :: (some .i64 :: (some .i64 :: (some .i64 :: (some .i64 :: (some .i64 :: (some .i64 :: (some .i64 :: (List.replicate 16 (some .u8) ++ (List.replicate 16 (some .u8) ++ [])))))))))))))))) cs) : ∃ x : Sx.PlanV, cs = Sx.concCs ρ x.cs /\ x.Wf := by
  obtain ⟨_, cs, rfl, ⟨n0, rfl, w0⟩, h1⟩ := Sx.allKw_cons h0
  obtain ⟨_, cs, rfl, ⟨n1, rfl, w1⟩, h2⟩ := Sx.allKw_cons h1
  obtain ⟨_, cs, rfl, ⟨n2, rfl, w2⟩, h3⟩ := Sx.allKw_cons h2
  obtain ⟨_, cs, rfl, ⟨n3, rfl, w3⟩, h4⟩ := Sx.allKw_cons h3
  obtain ⟨_, cs, rfl, ⟨n4, rfl, w4⟩, h5⟩ := Sx.allKw_cons h4
  obtain ⟨_, cs, rfl, ⟨n5, rfl, w5⟩, h6⟩ := Sx.allKw_cons h5
  obtain ⟨_, cs, rfl, ⟨n6, rfl, w6⟩, h7⟩ := Sx.allKw_cons h6
  obtain ⟨_, cs, rfl, ⟨n7, rfl, w7⟩, h8⟩ := Sx.allKw_cons h7
  obtain ⟨_, cs, rfl, ⟨n8, rfl, w8⟩, h9⟩ := Sx.allKw_cons h8
  obtain ⟨_, cs, rfl, ⟨n9, rfl, w9⟩, h10⟩ := Sx.allKw_cons h9
  obtain ⟨_, cs, rfl, ⟨n10, rfl, w10⟩, h11⟩ := Sx.allKw_cons h10
  obtain ⟨_, cs, rfl, ⟨n11, rfl, w11⟩, h12⟩ := Sx.allKw_cons h11
  obtain ⟨_, cs, rfl, ⟨n12, rfl, w12⟩, h13⟩ := Sx.allKw_cons h12
  obtain ⟨_, cs, rfl, ⟨n13, rfl, w13⟩, h14⟩ := Sx.allKw_cons h13
  obtain ⟨n14, cs, rfl, l14, w14, h15⟩ := Sx.allKw_ints h14
  obtain ⟨n15, cs, rfl, l15, w15, h16⟩ := Sx.allKw_ints h15
  obtain rfl := Sx.allKw_nil h16
  exact ⟨⟨n0, n1, n2, n3, n4, n5, n6, n7, n8, n9, n10, n11, n12, n13, n14, n15⟩, by simp [Sx.PlanV.cs, Sx.concCs, Sx.Chunk.conc, Sx.SVal.conc], Sx.wf_i64 w0, Sx.wf_i64 w1, Sx.wf_i64 w2, Sx.wf_i64 w3, Sx.wf_i64 w4, Sx.wf_i64 w5, Sx.wf_u64 w6, Sx.wf_i64 w7, Sx.wf_i64 w8, Sx.wf_i64 w9, Sx.wf_i64 w10, Sx.wf_i64 w11, Sx.wf_i64 w12, Sx.wf_i64 w13, l14, l15⟩
theorem kinds_Plan : Sx.kindsOf Try.prog 8 28 = some (some .i64 :: (some .i64 :: (some .i64 :: (some .i64 :: (some .i64 :: (some .i64 :: (some .u64 :: (some .i64 :: (some .i64 :: (some .i64 :: (some .i64 :: (some .i64 :: (some .i64 :: (some .i64 :: (List.replicate 16 (some .u8) ++ (List.replicate 16 (some .u8) ++ [])))))))))))))))) := by kernel_rfl
theorem cells_Plan : ((some .i64 :: (some .i64 :: (some .i64 :: (some .i64 :: (some .i64 :: (some .i64 :: (some .u64 :: (some .i64 :: (some .i64 :: (some .i64 :: (some .i64 :: (some .i64 :: (some .i64 :: (some .i64 :: (List.replicate 16 (some .u8) ++ (List.replicate 16 (some .u8) ++ [])))))))))))))))) : List (Option IntKind)).length = Try.prog.cellsOf 28 := by kernel_rfl
theorem key_Plan : Try.prog.keyTypeAt 8 28 = true := by kernel_rfl
theorem agg_Plan : Sx.aggT Try.prog 28 = true := by kernel_rfl
theorem open_Lu8_32 (ρ : Sx.Rho) {cs : List Value} (h0 : Sx.allKw (List.replicate 32 (some .u8) ++ []) cs) : ∃ x : List Int, cs = Sx.concCs ρ [.ints .u8 32 x] /\ (x.length = 32 /\ ∀ y ∈ x, 0 <= y /\ y < 256) := by
  obtain ⟨n0, cs, rfl, l0, w0, h1⟩ := Sx.allKw_ints h0
  obtain rfl := Sx.allKw_nil h1
  exact ⟨n0, by simp [Sx.concCs, Sx.Chunk.conc], l0, fun x hx => Sx.wf_u8 (w0 x hx)⟩
theorem kinds_Lu8_32 : Sx.kindsOf Try.prog 8 44 = some (List.replicate 32 (some .u8) ++ []) := by kernel_rfl
theorem cells_Lu8_32 : ((List.replicate 32 (some .u8) ++ []) : List (Option IntKind)).length = Try.prog.cellsOf 44 := by kernel_rfl
theorem key_Lu8_32 : Try.prog.keyTypeAt 8 44 = true := by kernel_rfl
theorem agg_Lu8_32 : Sx.aggT Try.prog 44 = true := by kernel_rfl
end Go.Proofs.Ytggpebgigddogaa
