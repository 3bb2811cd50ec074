/- Part of the proof: SxT7. -/
import Derived.Test.YtlmcdbgcbmjilaaSxT6
namespace Go.Proofs.Ytlmcdbgcbmjilaa
open Go.Sx
def cons41 : Con := ⟨41, S41, [], [.ints .u8 0 []]⟩
def cons42 : Con := ⟨42, S42, [], [.ints .u8 0 []]⟩
def cons43 : Con := ⟨43, S41, [], [.ints .u8 0 []]⟩
def cons44 : Con := ⟨44, S44, [], [.ints .u8 0 []]⟩
def cons45 : Con := ⟨45, S44, [], [.ints .u8 0 []]⟩
def cons46 : Con := ⟨46, S46, [], [.ints .u8 0 []]⟩
def cons47 : Con := ⟨47, S47, [0], [.ints .u8 0 []]⟩
theorem byte_of_bits {x : Int} (h : 0 ≤ x ∧ x < 256) (b0 b1 b2 b3 b4 b5 b6 b7 : Int) (h0 : bit8 x 0 = b0) (h1 : bit8 x 1 = b1) (h2 : bit8 x 2 = b2) (h3 : bit8 x 3 = b3) (h4 : bit8 x 4 = b4) (h5 : bit8 x 5 = b5) (h6 : bit8 x 6 = b6) (h7 : bit8 x 7 = b7) :
    x = b0 + 2 * b1 + 4 * b2 + 8 * b3 + 16 * b4 + 32 * b5 + 64 * b6 + 128 * b7 := by
  unfold bit8 at *
  simp only [Int.reducePow] at *
  omega
theorem speaks_put {ys : List Int} (h : PutOk [0, 0] ys 6 3 5) : ys = [64, 1] := by
  obtain ⟨h1, h2, h3⟩ := h
  match ys, h1 with
  | [x, y], _ =>
    have hx := h2 x (by simp)
    have hy := h2 y (by simp)
    have k0 := h3 0
    have k1 := h3 1
    have k2 := h3 2
    have k3 := h3 3
    have k4 := h3 4
    have k5 := h3 5
    have k6 := h3 6
    have k7 := h3 7
    have m0 := h3 8
    have m1 := h3 9
    have m2 := h3 10
    have m3 := h3 11
    have m4 := h3 12
    have m5 := h3 13
    have m6 := h3 14
    have m7 := h3 15
    have ex := byte_of_bits hx _ _ _ _ _ _ _ _ k0 k1 k2 k3 k4 k5 k6 k7
    have ey := byte_of_bits hy _ _ _ _ _ _ _ _ m0 m1 m2 m3 m4 m5 m6 m7
    rw [ex, ey]
    decide
/-- The examples of the document. -/
def S40 : Sx.Spec := fun args H K => args = [] ∧ H = ⟨0, []⟩ ∧ K (.bool true) ⟨0, []⟩
theorem s40 : Sound Try.prog 40 S40 := by
  have hΓ : CallOk Try.prog (withC [cons41, cons42, cons47]) := withC_ok ⟨s41, s42, s47, trivial⟩
  refine fn_sound hΓ c40_fits ?_
  rintro _ _ K ⟨rfl, rfl, hK⟩
  refine ⟨rfl, fun w0 fp ρi => ?_⟩
  dsimp only [c40, cons41, cons42, cons47, keeps, SVal.bd, bdL, bdCs, Chunk.bd, keeps, SVal.bd, bdL, bdCs, Chunk.bd, evFn, evCode, evItems, evQ, evOp, Opd.ev, evL, getE, put, kill, dead, binV, kEq, Nat.beq, Nat.ble, Nat.blt, and, or, not, cond_true, cond_false, Heap.push, Heap.find, Heap.set, Heap.drop, findE, SVal.chunks, rdC, rdA, wrC, wrA, takeN, dropN, lenCs, Chunk.len, isB, isCell, cellCs, Res.ev, RV.ev, getL, argEnv, withC, findC, callS, denil, nilV, nilE, extL, extV, extCs, winC, rangeC, disjOk, clash, heapOf, putAll, putC, wrWin, newEnts, kap, getP, SVal.ren, SAddr.ren, renCs, renL, Chunk.ren, plainCs, plainV, AOp.looks, srcI, optE, bndE, slo, evInts, evBuild, zerosL, List.length_cons, List.length_nil, List.cons_append, List.nil_append, List.append_nil, Nat.reduceAdd, Nat.reduceSub, Nat.add_zero, Nat.zero_add, Bool.and_true, Bool.true_and, Bool.and_false, Bool.false_and, Bool.or_false, Bool.not_false, Bool.not_true, memN, Option.getD, List.set]
  refine ⟨by omega, _, _, _, _, _, _, rfl, rfl, by omega, by unfold I64; omega, by unfold I64; omega, rfl, ?_, by omega, by omega, ?_, ?_, ?_⟩
  · intro x hx; simp at hx; omega
  · intro h; exact absurd (by unfold There; omega) h
  · intro _ h; exact absurd (by decide) h
  · intro _ _ ys hys
    obtain rfl := speaks_put hys
    dsimp only [keeps, SVal.bd, bdL, bdCs, Chunk.bd, keeps, SVal.bd, bdL, bdCs, Chunk.bd, evFn, evCode, evItems, evQ, evOp, Opd.ev, evL, getE, put, kill, dead, binV, kEq, Nat.beq, Nat.ble, Nat.blt, and, or, not, cond_true, cond_false, Heap.push, Heap.find, Heap.set, Heap.drop, findE, SVal.chunks, rdC, rdA, wrC, wrA, takeN, dropN, lenCs, Chunk.len, isB, isCell, cellCs, Res.ev, RV.ev, getL, argEnv, withC, findC, callS, denil, nilV, nilE, extL, extV, extCs, winC, rangeC, disjOk, clash, heapOf, putAll, putC, wrWin, newEnts, kap, getP, SVal.ren, SAddr.ren, renCs, renL, Chunk.ren, plainCs, plainV, AOp.looks, srcI, optE, bndE, slo, evInts, evBuild, zerosL, List.length_cons, List.length_nil, List.cons_append, List.nil_append, List.append_nil, Nat.reduceAdd, Nat.reduceSub, Nat.add_zero, Nat.zero_add, Bool.and_true, Bool.true_and, Bool.and_false, Bool.false_and, Bool.or_false, Bool.not_false, Bool.not_true, memN, Option.getD, List.set]
    refine ⟨rfl, by omega, rfl, rfl, by omega, _, _, _, _, _, _, rfl, rfl, rfl, by omega, by omega, by omega, fun c' hc => ?_⟩
    have e1 : (min (3 : Int) 64).toNat = 3 := by decide
    have e2 : List.take 0 (List.drop 0 ([] : List Int)) ++ numB 258 3 = [2, 1, 0] := by decide
    simp only [e1, e2, Nat.zero_add] at hc ⊢
    dsimp only [keeps, SVal.bd, bdL, bdCs, Chunk.bd, keeps, SVal.bd, bdL, bdCs, Chunk.bd, evFn, evCode, evItems, evQ, evOp, Opd.ev, evL, getE, put, kill, dead, binV, kEq, Nat.beq, Nat.ble, Nat.blt, and, or, not, cond_true, cond_false, Heap.push, Heap.find, Heap.set, Heap.drop, findE, SVal.chunks, rdC, rdA, wrC, wrA, takeN, dropN, lenCs, Chunk.len, isB, isCell, cellCs, Res.ev, RV.ev, getL, argEnv, withC, findC, callS, denil, nilV, nilE, extL, extV, extCs, winC, rangeC, disjOk, clash, heapOf, putAll, putC, wrWin, newEnts, kap, getP, SVal.ren, SAddr.ren, renCs, renL, Chunk.ren, plainCs, plainV, AOp.looks, srcI, optE, bndE, slo, evInts, evBuild, zerosL, List.length_cons, List.length_nil, List.cons_append, List.nil_append, List.append_nil, Nat.reduceAdd, Nat.reduceSub, Nat.add_zero, Nat.zero_add, Bool.and_true, Bool.true_and, Bool.and_false, Bool.false_and, Bool.or_false, Bool.not_false, Bool.not_true, memN, Option.getD, List.set]
    refine ⟨by omega, by omega, _, _, _, _, _, _, _, _, rfl, rfl, rfl, rfl, by omega, by omega, ?_⟩
    dsimp only [keeps, SVal.bd, bdL, bdCs, Chunk.bd, keeps, SVal.bd, bdL, bdCs, Chunk.bd, evFn, evCode, evItems, evQ, evOp, Opd.ev, evL, getE, put, kill, dead, binV, kEq, Nat.beq, Nat.ble, Nat.blt, and, or, not, cond_true, cond_false, Heap.push, Heap.find, Heap.set, Heap.drop, findE, SVal.chunks, rdC, rdA, wrC, wrA, takeN, dropN, lenCs, Chunk.len, isB, isCell, cellCs, Res.ev, RV.ev, getL, argEnv, withC, findC, callS, denil, nilV, nilE, extL, extV, extCs, winC, rangeC, disjOk, clash, heapOf, putAll, putC, wrWin, newEnts, kap, getP, SVal.ren, SAddr.ren, renCs, renL, Chunk.ren, plainCs, plainV, AOp.looks, srcI, optE, bndE, slo, evInts, evBuild, zerosL, List.length_cons, List.length_nil, List.cons_append, List.nil_append, List.append_nil, Nat.reduceAdd, Nat.reduceSub, Nat.add_zero, Nat.zero_add, Bool.and_true, Bool.true_and, Bool.and_false, Bool.false_and, Bool.or_false, Bool.not_false, Bool.not_true, memN, Option.getD, List.set]
    refine ⟨true, fun _ => ⟨⟨rfl, rfl, rfl, rfl, rfl, trivial⟩, rfl⟩, fun h => (by cases h), true, fun _ => ⟨by omega, by decide, by decide, ⟨rfl, rfl, rfl, rfl, rfl, trivial⟩, rfl⟩, fun h => (by cases h), true, fun _ => ⟨by omega, by decide, by decide, ⟨rfl, rfl, rfl, rfl, rfl, trivial⟩, rfl⟩, fun h => (by cases h), ?_⟩
    refine ret_tau [] rfl hK ?_ ?_ ?_ ?_ ?_
    all_goals (first | rfl | trivial | (dsimp only [heapSub, injSub, envSub, bdCs, bdL, Chunk.bd, SVal.bd, tau, tauE, whole, SVal.ren, SAddr.ren, renCs, renL, Chunk.ren, Heap.find, findE, getE, Nat.beq, cond_true, cond_false, Heap.push, Heap.drop, Heap.set, nilE, nilV, List.map]; (repeat' apply And.intro) <;> first | rfl | trivial | decide | omega))
def cons40 : Con := ⟨40, S40, [], []⟩
end Go.Proofs.Ytlmcdbgcbmjilaa
