/- Two parts of the proof. -/
import Derived.Test.YtfffjdfegnmejaaRows
import Derived.ProofKit
import Derived.Test.YtfffjdfegnmejaaSxPlan
import Derived.Test.YtfffjdfegnmejaaSxRow
import Derived.Test.YtfffjdfegnmejaaSxRegion
import Derived.Test.YtfffjdfegnmejaaSxOpW
set_option linter.unusedVariables false
set_option linter.unusedSimpArgs false
namespace Go.Proofs.Ytfffjdfegnmejaa
theorem ZuW : Try.prog.make = some .cut := by kernel_rfl
theorem Zs5 : Try.prog.liftsFinal = false := by kernel_rfl
theorem Zlw : Try.prog.mayEnter = true := by kernel_rfl
end Go.Proofs.Ytfffjdfegnmejaa

namespace Go.Sx
theorem ZLW {n : Int} (h : (Lit.int .u8 n).wf = true) : 0 <= n /\ n < 256 := by
  simp only [Lit.wf, Bool.and_eq_true, IntKind.min, IntKind.max, IntKind.signed, IntKind.bits] at h
  simp at h; omega
end Go.Sx

namespace Go.Proofs.Ytfffjdfegnmejaa
theorem Try.own : ownKnob Try.prog.godebug = none := by kernel_rfl
theorem Try.laidOut : laidOutB Try.prog = true := by kernel_rfl
theorem Zjt (ρ : Sx.Rho) {cs : List Value} (h0 : Sx.ZfR (List.replicate 16 (some .u8) ++ []) cs) : ∃ x : List Int, cs = Sx.Zab ρ [.ints .u8 16 x] /\ (x.length = 16 /\ ∀ y ∈ x, 0 <= y /\ y < 256) := by
  obtain ⟨n0, cs, rfl, l0, w0, h1⟩ := Sx.Zk4 h0
  obtain rfl := Sx.Zyh h1
  exact ⟨n0, by simp [Sx.Zab, Sx.Chunk.conc], l0, fun x hx => Sx.ZLW (w0 x hx)⟩
theorem Zim : Sx.Za5 Try.prog 8 23 = some (List.replicate 16 (some .u8) ++ []) := by kernel_rfl
theorem Zit : ((List.replicate 16 (some .u8) ++ []) : List (Option IntKind)).length = Try.prog.cellsOf 23 := by kernel_rfl
theorem ZkM : Try.prog.keyTypeAt 8 23 = true := by kernel_rfl
theorem Zk5 : Sx.Znn Try.prog 23 = true := by kernel_rfl
end Go.Proofs.Ytfffjdfegnmejaa
