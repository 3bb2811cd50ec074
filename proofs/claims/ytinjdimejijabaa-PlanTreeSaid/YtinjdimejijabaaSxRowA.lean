/- Two parts of the proof. -/
import Derived.Test.YtinjdimejijabaaRows
import Derived.ProofKit
import Derived.Test.YtinjdimejijabaaSxPlan
import Derived.Test.YtinjdimejijabaaSxRow
import Derived.Test.YtinjdimejijabaaSxRegion
import Derived.Test.YtinjdimejijabaaSxOpW
set_option linter.unusedVariables false
set_option linter.unusedSimpArgs false
namespace Go.Proofs.Ytinjdimejijabaa
theorem ZiT : Try.prog.make = some .cut := by kernel_rfl
theorem Zh9 : Try.prog.liftsFinal = false := by kernel_rfl
theorem ZfR : Try.prog.mayEnter = true := by kernel_rfl
end Go.Proofs.Ytinjdimejijabaa

namespace Go.Sx
theorem Zcm {n : Int} (h : (Lit.int .i64 n).wf = true) : I64 n := by
  simp only [Lit.wf, Bool.and_eq_true, decide_eq_true_eq, IntKind.min, IntKind.max, IntKind.signed, IntKind.bits] at h
  unfold I64; simp at h; omega
theorem Zlc {n : Int} (h : (Lit.int .u64 n).wf = true) : 0 <= n /\ n < 2 ^ 64 := by
  simp only [Lit.wf, Bool.and_eq_true, IntKind.min, IntKind.max, IntKind.signed, IntKind.bits] at h
  simp at h; omega
end Go.Sx

namespace Go.Proofs.Ytinjdimejijabaa
theorem Try.own : ownKnob Try.prog.godebug = none := by kernel_rfl
theorem Try.laidOut : laidOutB Try.prog = true := by kernel_rfl
theorem Zi1 (ρ : Sx.Rho) {cs : List Value} (h0 : Sx.Zds (some .i64 :: (some .i64 :: (some .i64 :: (some .i64 :: (some .i64 :: (some .i64 :: (some .u64 :: (some .i64 :: (some .i64 :: (some .i64 :: (some .i64 :: (some .i64 :: (some .i64 :: (some .i64 :: (List.replicate 16 (some .u8) ++ (List.replicate 16 (some .u8) ++ [])))))))))))))))) cs) : ∃ x : Sx.PlanV, cs = Sx.Zab ρ x.cs /\ x.Wf := by
  obtain ⟨_, cs, rfl, ⟨n0, rfl, w0⟩, h1⟩ := Sx.ZaJ h0
  obtain ⟨_, cs, rfl, ⟨n1, rfl, w1⟩, h2⟩ := Sx.ZaJ h1
  obtain ⟨_, cs, rfl, ⟨n2, rfl, w2⟩, h3⟩ := Sx.ZaJ h2
  obtain ⟨_, cs, rfl, ⟨n3, rfl, w3⟩, h4⟩ := Sx.ZaJ h3
  obtain ⟨_, cs, rfl, ⟨n4, rfl, w4⟩, h5⟩ := Sx.ZaJ h4
  obtain ⟨_, cs, rfl, ⟨n5, rfl, w5⟩, h6⟩ := Sx.ZaJ h5
  obtain ⟨_, cs, rfl, ⟨n6, rfl, w6⟩, h7⟩ := Sx.ZaJ h6
  obtain ⟨_, cs, rfl, ⟨n7, rfl, w7⟩, h8⟩ := Sx.ZaJ h7
  obtain ⟨_, cs, rfl, ⟨n8, rfl, w8⟩, h9⟩ := Sx.ZaJ h8
  obtain ⟨_, cs, rfl, ⟨n9, rfl, w9⟩, h10⟩ := Sx.ZaJ h9
  obtain ⟨_, cs, rfl, ⟨n10, rfl, w10⟩, h11⟩ := Sx.ZaJ h10
  obtain ⟨_, cs, rfl, ⟨n11, rfl, w11⟩, h12⟩ := Sx.ZaJ h11
  obtain ⟨_, cs, rfl, ⟨n12, rfl, w12⟩, h13⟩ := Sx.ZaJ h12
  obtain ⟨_, cs, rfl, ⟨n13, rfl, w13⟩, h14⟩ := Sx.ZaJ h13
  obtain ⟨n14, cs, rfl, l14, w14, h15⟩ := Sx.Zeq h14
  obtain ⟨n15, cs, rfl, l15, w15, h16⟩ := Sx.Zeq h15
  obtain rfl := Sx.Zjq h16
  exact ⟨⟨n0, n1, n2, n3, n4, n5, n6, n7, n8, n9, n10, n11, n12, n13, n14, n15⟩, by simp [Sx.PlanV.cs, Sx.Zab, Sx.Chunk.conc, Sx.SVal.conc], Sx.Zcm w0, Sx.Zcm w1, Sx.Zcm w2, Sx.Zcm w3, Sx.Zcm w4, Sx.Zcm w5, Sx.Zlc w6, Sx.Zcm w7, Sx.Zcm w8, Sx.Zcm w9, Sx.Zcm w10, Sx.Zcm w11, Sx.Zcm w12, Sx.Zcm w13, l14, l15⟩
theorem Zig : Sx.ZdB Try.prog 8 28 = some (some .i64 :: (some .i64 :: (some .i64 :: (some .i64 :: (some .i64 :: (some .i64 :: (some .u64 :: (some .i64 :: (some .i64 :: (some .i64 :: (some .i64 :: (some .i64 :: (some .i64 :: (some .i64 :: (List.replicate 16 (some .u8) ++ (List.replicate 16 (some .u8) ++ [])))))))))))))))) := by kernel_rfl
theorem Zil : ((some .i64 :: (some .i64 :: (some .i64 :: (some .i64 :: (some .i64 :: (some .i64 :: (some .u64 :: (some .i64 :: (some .i64 :: (some .i64 :: (some .i64 :: (some .i64 :: (some .i64 :: (some .i64 :: (List.replicate 16 (some .u8) ++ (List.replicate 16 (some .u8) ++ [])))))))))))))))) : List (Option IntKind)).length = Try.prog.cellsOf 28 := by kernel_rfl
theorem ZjT : Try.prog.keyTypeAt 8 28 = true := by kernel_rfl
theorem Zj5 : Sx.Zng Try.prog 28 = true := by kernel_rfl
end Go.Proofs.Ytinjdimejijabaa
