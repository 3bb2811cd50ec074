/- Two parts of the proof. -/
import Derived.Test.YtefmjmghkedciaaRows
import Derived.ProofKit
import Derived.Test.YtefmjmghkedciaaSxPlan
import Derived.Test.YtefmjmghkedciaaSxRow
import Derived.Test.YtefmjmghkedciaaSxRegion
import Derived.Test.YtefmjmghkedciaaSxOpW
set_option linter.unusedVariables false
set_option linter.unusedSimpArgs false
namespace Go.Proofs.Ytefmjmghkedciaa
theorem prog_make : Try.prog.make = some .cut := by kernel_rfl
theorem prog_lifts : Try.prog.liftsFinal = false := by kernel_rfl
theorem prog_mayEnter : Try.prog.mayEnter = true := by kernel_rfl
end Go.Proofs.Ytefmjmghkedciaa

namespace Go.Sx
theorem wf_u8 {n : Int} (h : (Lit.int .u8 n).wf = true) : 0 <= n /\ n < 256 := by
  simp only [Lit.wf, Bool.and_eq_true, IntKind.min, IntKind.max, IntKind.signed, IntKind.bits] at h
  simp at h; omega
end Go.Sx

namespace Go.Proofs.Ytefmjmghkedciaa
theorem Try.own : ownKnob Try.prog.godebug = none := by kernel_rfl
theorem Try.laidOut : laidOutB Try.prog = true := by kernel_rfl
theorem open_Lu8_16 (ρ : Sx.Rho) {cs : List Value} (h0 : Sx.allKw (List.replicate 16 (some .u8) ++ []) cs) : ∃ x : List Int, cs = Sx.concCs ρ [.ints .u8 16 x] /\ (x.length = 16 /\ ∀ y ∈ x, 0 <= y /\ y < 256) := by
  obtain ⟨n0, cs, rfl, l0, w0, h1⟩ := Sx.allKw_ints h0
  obtain rfl := Sx.allKw_nil h1
  exact ⟨n0, by simp [Sx.concCs, Sx.Chunk.conc], l0, fun x hx => Sx.wf_u8 (w0 x hx)⟩
theorem kinds_Lu8_16 : Sx.kindsOf Try.prog 8 38 = some (List.replicate 16 (some .u8) ++ []) := by kernel_rfl
theorem cells_Lu8_16 : ((List.replicate 16 (some .u8) ++ []) : List (Option IntKind)).length = Try.prog.cellsOf 38 := by kernel_rfl
theorem key_Lu8_16 : Try.prog.keyTypeAt 8 38 = true := by kernel_rfl
theorem agg_Lu8_16 : Sx.aggT Try.prog 38 = true := by kernel_rfl
end Go.Proofs.Ytefmjmghkedciaa
