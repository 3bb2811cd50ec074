/- Two parts of the proof. -/
import Derived.Test.YtefmjmghkedciaaRows
import Derived.ProofKit
import Derived.Test.YtefmjmghkedciaaSxPlan
import Derived.Test.YtefmjmghkedciaaSxRow
import Derived.Test.YtefmjmghkedciaaSxRegion
import Derived.Test.YtefmjmghkedciaaSxOpW
set_option linter.unusedVariables false
set_option linter.unusedSimpArgs false
namespace Go.Proofs.Ytefmjmghkedciaa
theorem prog_make : Try.prog.make = some .cut := by kernel_rfl
theorem prog_lifts : Try.prog.liftsFinal = false := by kernel_rfl
theorem prog_mayEnter : Try.prog.mayEnter = true := by kernel_rfl
end Go.Proofs.Ytefmjmghkedciaa

namespace Go.Sx
theorem wf_i64 {n : Int} (h : (Lit.int .i64 n).wf = true) : I64 n := by
  simp only [Lit.wf, Bool.and_eq_true, decide_eq_true_eq, IntKind.min, IntKind.max, IntKind.signed, IntKind.bits] at h
  unfold I64; simp at h; omega
theorem wf_u64 {n : Int} (h : (Lit.int .u64 n).wf = true) : 0 ≤ n ∧ n < 2 ^ 64 := by
  simp only [Lit.wf, Bool.and_eq_true, IntKind.min, IntKind.max, IntKind.signed, IntKind.bits] at h
  simp at h; omega
theorem wf_u8 {n : Int} (h : (Lit.int .u8 n).wf = true) : 0 ≤ n ∧ n < 256 := by
  simp only [Lit.wf, Bool.and_eq_true, IntKind.min, IntKind.max, IntKind.signed, IntKind.bits] at h
  simp at h; omega
def planKinds : List (Option IntKind) := some .i64 :: some .i64 :: some .i64 :: some .i64 :: some .i64 :: some .i64 :: some .u64 :: some .i64 :: some .i64 :: some .i64 :: some .i64 :: some .i64 :: some .i64 :: some .i64 :: (List.replicate 16 (some .u8) ++ (List.replicate 16 (some .u8) ++ []))
theorem open_plan (ρ : Rho) {cs : List Value} (h0 : allKw planKinds cs) : ∃ p : PlanV, cs = concCs ρ p.cs ∧ p.Wf := by
  unfold planKinds at h0
  obtain ⟨_, cs, rfl, ⟨n0, rfl, w0⟩, h1⟩ := allKw_cons h0
  obtain ⟨_, cs, rfl, ⟨n1, rfl, w1⟩, h2⟩ := allKw_cons h1
  obtain ⟨_, cs, rfl, ⟨n2, rfl, w2⟩, h3⟩ := allKw_cons h2
  obtain ⟨_, cs, rfl, ⟨n3, rfl, w3⟩, h4⟩ := allKw_cons h3
  obtain ⟨_, cs, rfl, ⟨n4, rfl, w4⟩, h5⟩ := allKw_cons h4
  obtain ⟨_, cs, rfl, ⟨n5, rfl, w5⟩, h6⟩ := allKw_cons h5
  obtain ⟨_, cs, rfl, ⟨n6, rfl, w6⟩, h7⟩ := allKw_cons h6
  obtain ⟨_, cs, rfl, ⟨n7, rfl, w7⟩, h8⟩ := allKw_cons h7
  obtain ⟨_, cs, rfl, ⟨n8, rfl, w8⟩, h9⟩ := allKw_cons h8
  obtain ⟨_, cs, rfl, ⟨n9, rfl, w9⟩, h10⟩ := allKw_cons h9
  obtain ⟨_, cs, rfl, ⟨n10, rfl, w10⟩, h11⟩ := allKw_cons h10
  obtain ⟨_, cs, rfl, ⟨n11, rfl, w11⟩, h12⟩ := allKw_cons h11
  obtain ⟨_, cs, rfl, ⟨n12, rfl, w12⟩, h13⟩ := allKw_cons h12
  obtain ⟨_, cs, rfl, ⟨n13, rfl, w13⟩, h14⟩ := allKw_cons h13
  obtain ⟨xs, cs, rfl, hx, _, h15⟩ := allKw_ints h14
  obtain ⟨ys, cs, rfl, hy, _, h16⟩ := allKw_ints h15
  obtain rfl := allKw_nil h16
  exact ⟨⟨n0, n1, n2, n3, n4, n5, n6, n7, n8, n9, n10, n11, n12, n13, xs, ys⟩, by simp [PlanV.cs, concCs, Chunk.conc, SVal.conc], wf_i64 w0, wf_i64 w1, wf_i64 w2, wf_i64 w3, wf_i64 w4, wf_i64 w5, wf_u64 w6, wf_i64 w7, wf_i64 w8, wf_i64 w9, wf_i64 w10, wf_i64 w11, wf_i64 w12, wf_i64 w13, hx, hy⟩
theorem open_line {cs : List Value} (h : allKw (List.replicate 32 (some .u8)) cs) : ∃ xs : List Int, cs = intsConc .u8 32 xs ∧ xs.length = 32 ∧ ∀ x ∈ xs, 0 ≤ x ∧ x < 256 := by
  rw [← List.append_nil (List.replicate 32 (some IntKind.u8))] at h
  obtain ⟨xs, cs, rfl, hx, hb, h'⟩ := allKw_ints h
  obtain rfl := allKw_nil h'
  exact ⟨xs, by simp, hx, fun x hm => wf_u8 (hb x hm)⟩
end Go.Sx

namespace Go.Proofs.Ytefmjmghkedciaa
theorem Try.own : ownKnob Try.prog.godebug = none := by kernel_rfl
theorem Try.laidOut : laidOutB Try.prog = true := by kernel_rfl
theorem open_Lu8_16 (ρ : Sx.Rho) {cs : List Value} (h0 : Sx.allKw (List.replicate 16 (some .u8) ++ []) cs) : ∃ x : List Int, cs = Sx.concCs ρ [.ints .u8 16 x] ∧ (x.length = 16 ∧ ∀ y ∈ x, 0 ≤ y ∧ y < 256) := by
  obtain ⟨n0, cs, rfl, l0, w0, h1⟩ := Sx.allKw_ints h0
  obtain rfl := Sx.allKw_nil h1
  exact ⟨n0, by simp [Sx.concCs, Sx.Chunk.conc], l0, fun x hx => Sx.wf_u8 (w0 x hx)⟩
theorem kinds_Lu8_16 : Sx.kindsOf Try.prog 8 38 = some (List.replicate 16 (some .u8) ++ []) := by kernel_rfl
theorem cells_Lu8_16 : ((List.replicate 16 (some .u8) ++ []) : List (Option IntKind)).length = Try.prog.cellsOf 38 := by kernel_rfl
theorem key_Lu8_16 : Try.prog.keyTypeAt 8 38 = true := by kernel_rfl
theorem agg_Lu8_16 : Sx.aggT Try.prog 38 = true := by kernel_rfl
end Go.Proofs.Ytefmjmghkedciaa
