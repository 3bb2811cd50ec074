/- Part of the proof: SxT9a. -/
import Derived.Test.YtlmcdbgcbmjilaaSxT8
import Derived.Test.YtlmcdbgcbmjilaaSxTop
import Derived.Test.YtlmcdbgcbmjilaaRows
namespace Go.Proofs.Ytlmcdbgcbmjilaa
open Go.ChangeShapes Go.WideShapes Go.ChangeAt Go.RowKit

theorem Try.own : ownKnob Try.prog.godebug = none := by kernel_rfl
theorem Try.laidOut : laidOutB Try.prog = true := by kernel_rfl
theorem lit_i64 {n : Int} (h : (Lit.int .i64 n).wf = true) : Sx.I64 n := by
  simp only [Lit.wf, Bool.and_eq_true, decide_eq_true_eq, IntKind.min, IntKind.max, IntKind.signed, IntKind.bits] at h
  unfold Sx.I64; simp at h; omega
theorem lit_u64 {n : Int} (h : (Lit.int .u64 n).wf = true) : 0 ≤ n ∧ n < 2 ^ 64 := by
  simp only [Lit.wf, Bool.and_eq_true, IntKind.min, IntKind.max, IntKind.signed, IntKind.bits] at h
  simp at h; omega
theorem lit_u8 {n : Int} (h : (Lit.int .u8 n).wf = true) : 0 ≤ n ∧ n < 256 := by
  simp only [Lit.wf, Bool.and_eq_true, IntKind.min, IntKind.max, IntKind.signed, IntKind.bits] at h
  simp at h; omega
/-- A law of one row of bytes, and two numbers. -/
theorem law3_calls {f : FuncId} {W : World} {q : Option (Nat × Nat)} {len cap : Nat} {xs : List Int} {v n : Int} (hS : Sx.Sound Try.prog f SLaw3) (hl : xs.length = len) (hlc : len ≤ cap) (hq : q = none → len = 0 ∧ cap = 0)
    (hcell : ∀ b off, q = some (b, off) → ∀ i, i < len → W.cell? ⟨b, off + i, none⟩ = some (.int .u8 (xs.getD i 0))) (hx : ∀ n ∈ xs, (Lit.int .u8 n).wf = true) (hv : (Lit.int .u64 v).wf = true) (hn : (Lit.int .i64 n).wf = true) :
    Calls Try.prog f #[.slice (q.map fun p => ⟨p.1, p.2, none⟩) len cap, .int .u64 v, .int .i64 n] W fun e W' => e = .returned (.bool true) ∧ Below W.heap.size W W' := by
  have hf : ∀ id en, (⟨1, [(0, some ⟨false, [.ints .u8 len xs], 0⟩)]⟩ : Sx.Heap).find id = some en → id = 0 ∧ en = ⟨false, [.ints .u8 len xs], 0⟩ := fun id en he => by
    simp only [Sx.Heap.find, Sx.findE_cons] at he
    split at he
    · rename_i h; cases he; exact ⟨h.symm, rfl⟩
    · cases he
  have h := Sx.sound_top (W := W) (ρ := fun i => if i = 0 then q else none) (H := ⟨1, [(0, some ⟨false, [.ints .u8 len xs], 0⟩)]⟩) (args := [.slice ⟨0,0,0,1⟩ len cap, .int .u64 v, .int .i64 n]) hS
    ⟨len, cap, xs, v, n, rfl, rfl, hl, hlc, fun x hx' => lit_u8 (hx x hx'), (lit_u64 hv).1, (lit_u64 hv).2, lit_i64 hn, rfl⟩ (fun id en he => by obtain ⟨_, rfl⟩ := hf id en he; rfl)
    (Sx.rel_ro fun id en he => by
      obtain ⟨rfl, rfl⟩ := hf id en he
      refine ⟨Nat.zero_lt_one, rfl, rfl, by simp [Sx.okCs, Sx.Chunk.ok], fun hn => by simp at hn; simp [Sx.lenCs, Sx.Chunk.len, (hq hn).1], fun b base hb i v hi => ?_⟩
      simp only [if_pos] at hb
      simp only [Sx.concCs, Sx.Chunk.conc, List.append_nil] at hi
      have hil := (List.getElem?_eq_some_iff.1 hi).1
      rw [Sx.intsConc_length] at hil
      rw [Sx.intsConc_get _ _ _ _ hil] at hi
      rw [← hi]
      exact hcell b base hb i hil)
    (by simp only [Sx.okL, Sx.SVal.ok, and_true]; exact ⟨Nat.zero_lt_one, fun h => by simpa using hq h⟩)
  simpa [Sx.concL, Sx.SVal.conc, Sx.SAddr.conc] using h

end Go.Proofs.Ytlmcdbgcbmjilaa
