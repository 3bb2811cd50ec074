/- Part of the proof: SxT1. -/
import Derived.Test.YtlmcdbgcbmjilaaSxNum
import Derived.Test.YtlmcdbgcbmjilaaSxBitsC
import Derived.Test.YtlmcdbgcbmjilaaSxHelp
namespace Go.Proofs.Ytlmcdbgcbmjilaa
open Go.Sx
def S150 : Sx.Spec := fun args H K => ∃ w n c xs, args = [.slice ⟨0,0,0,1⟩ n c] ∧ H = ⟨1,[(0,some ⟨w,[.ints .u8 n xs],0⟩)]⟩ ∧ xs.length = n ∧ n ≤ 1000000000 ∧ ∀ c', n ≤ c' → K (.slice ⟨1,0,0,1⟩ n c') ⟨2,[(1,some ⟨true,[.ints .u8 n xs],c'-n⟩),(0,some ⟨w,[.ints .u8 n xs],0⟩)]⟩
theorem s150 : Sound Try.prog 150 S150 := by
  refine fn_sound (Γ := withC []) (withC_ok trivial) c150_fits ?_
  rintro _ _ K ⟨w, n, c, xs, rfl, rfl, hl, hn, hK⟩
  refine ⟨rfl, fun w0 fp ρi => ?_⟩
  dsimp only [c150, keeps, SVal.bd, bdL, bdCs, Chunk.bd, keeps, SVal.bd, bdL, bdCs, Chunk.bd, evFn, evCode, evItems, evQ, evOp, Opd.ev, evL, getE, put, kill, dead, binV, kEq, Nat.beq, Nat.ble, Nat.blt, and, or, not, cond_true, cond_false, Heap.push, Heap.find, Heap.set, Heap.drop, findE, SVal.chunks, rdC, rdA, wrC, wrA, takeN, dropN, lenCs, Chunk.len, isB, isCell, cellCs, Res.ev, RV.ev, getL, argEnv, withC, findC, callS, denil, nilV, nilE, extL, extV, extCs, winC, rangeC, disjOk, clash, heapOf, putAll, putC, wrWin, newEnts, kap, getP, SVal.ren, SAddr.ren, renCs, renL, Chunk.ren, plainCs, plainV, AOp.looks, srcI, optE, bndE, slo, evInts, evBuild, zerosL, List.length_cons, List.length_nil, List.cons_append, List.nil_append, List.append_nil, Nat.reduceAdd, Nat.reduceSub, Nat.add_zero, Nat.zero_add, Bool.and_true, Bool.true_and, Bool.and_false, Bool.false_and, Bool.or_false, Bool.not_false, Bool.not_true, memN, Option.getD, List.set]
  refine fun q hq => ⟨fun h => ?_, fun h => ⟨by omega, rfl, rfl, rfl, by omega, fun c' hc => ?_⟩⟩
  · obtain ⟨rfl, rfl⟩ := hq h
    obtain rfl := List.eq_nil_of_length_eq_zero hl
    refine ret_nil [] [.ints .u8 0 []] rfl rfl rfl (hK 0 (Nat.le_refl _)) ?_ ?_ ?_ ?_ ?_
    all_goals (first | rfl | trivial | (dsimp only [heapSub, injSub, envSub, bdCs, bdL, Chunk.bd, SVal.bd, tau, tauE, whole, SVal.ren, SAddr.ren, renCs, renL, Chunk.ren, Heap.find, findE, getE, Nat.beq, cond_true, cond_false, Heap.push, Heap.drop, Heap.set, nilE, nilV, List.map]; (repeat' apply And.intro) <;> first | rfl | trivial | decide | omega))
  · simp only [Nat.zero_add, List.drop_zero, List.take_of_length_le (Nat.le_of_eq hl)] at *
    refine ret_tau [(1, 2)] rfl (hK c' hc) ?_ ?_ ?_ ?_ ?_
    all_goals (first | rfl | trivial | (dsimp only [heapSub, injSub, envSub, bdCs, bdL, Chunk.bd, SVal.bd, tau, tauE, whole, SVal.ren, SAddr.ren, renCs, renL, Chunk.ren, Heap.find, findE, getE, Nat.beq, cond_true, cond_false, Heap.push, Heap.drop, Heap.set, nilE, nilV, List.map]; (repeat' apply And.intro) <;> first | rfl | trivial | decide | omega))
end Go.Proofs.Ytlmcdbgcbmjilaa
