/- Part of the proof: SxT18. -/
import Derived.Test.YtlmcdbgcbmjilaaSxT15
import Derived.Test.YtlmcdbgcbmjilaaSxLem
namespace Go.Proofs.Ytlmcdbgcbmjilaa
open Go.Sx
def S48 : Sx.Spec := fun args H K => match args with
  | [] => noH H (K (.bool true) ⟨0, []⟩)
  | _ => False
set_option maxHeartbeats 4000000 in
theorem s48 : Sound Try.prog 48 S48 := by
  have hΓ : CallOk Try.prog (withC [cons51, cons53]) := withC_ok ⟨s51, s53, trivial⟩
  refine fn_sound hΓ c48_fits ?_
  intro args H K h
  unfold S48 at h
  split at h
  · obtain ⟨rfl, hK⟩ := noH_inv h
    refine ⟨rfl, fun w0 fp ρi => ?_⟩
    dsimp only [c48, cons51, cons53, S51, S53, planArg, noH, keeps, SVal.bd, bdL, bdCs, Chunk.bd, keeps, SVal.bd, bdL, bdCs, Chunk.bd, evFn, evCode, evItems, evQ, evOp, Opd.ev, evL, getE, put, kill, dead, binV, kEq, Nat.beq, Nat.ble, Nat.blt, and, or, not, cond_true, cond_false, Heap.push, Heap.find, Heap.set, Heap.drop, findE, SVal.chunks, ↓rdC_hit, ↓rdC_skip, ↓rdC_ints, ↓rdC_iskip, ↓rdC_rows, ↓wrC_hit, ↓wrC_skip, ↓wrC_ints, ↓wrC_iskip, ↓takeN_nil, ↓takeN_zero, ↓takeN_one, ↓takeN_ints, ↓dropN_nil, ↓dropN_zero, ↓dropN_one, ↓dropN_ints, ↓rdA_hit, ↓rdA_skip, ↓rdA_ints, ↓rdA_iskip, ↓rdA_rows, ↓wrA_hit, ↓wrA_skip, ↓wrA_ints, ↓wrA_iskip, rdC_hit, rdC_skip, rdC_ints, rdC_iskip, rdC_rows, wrC_hit, wrC_skip, wrC_ints, wrC_iskip, takeN_nil, takeN_zero, takeN_one, takeN_ints, dropN_nil, dropN_zero, dropN_one, dropN_ints, rdA_hit, rdA_skip, rdA_ints, rdA_iskip, rdA_rows, wrA_hit, wrA_skip, wrA_ints, wrA_iskip, lenCs, Chunk.len, isB, isCell, cellCs, Res.ev, RV.ev, getL, argEnv, withC, findC, callS, denil, nilV, nilE, extL, extV, extCs, winC, rangeC, disjOk, clash, heapOf, putAll, putC, wrWin, newEnts, kap, getP, SVal.ren, SAddr.ren, renCs, renL, Chunk.ren, plainCs, plainV, AOp.looks, srcI, optE, bndE, slo, evInts, evBuild, zerosL, List.length_cons, List.length_nil, List.cons_append, List.nil_append, List.append_nil, Nat.reduceAdd, Nat.reduceSub, Nat.add_zero, Nat.zero_add, Bool.and_true, Bool.true_and, Bool.and_false, Bool.false_and, Bool.or_false, Bool.not_false, Bool.not_true, memN, Option.getD, List.set]
    refine ⟨true, fun _ => ⟨(by first | exact True.intro | ((repeat' apply And.intro) <;> first | exact True.intro | rfl)), by decide +kernel⟩, fun h => absurd h (by decide +kernel), true, fun _ => ⟨(by first | exact True.intro | ((repeat' apply And.intro) <;> first | exact True.intro | rfl)), by decide +kernel⟩, fun h => (by cases h), ?_⟩
    refine ret_tau [] rfl hK ?_ ?_ ?_ ?_ ?_
    all_goals (first | rfl | trivial | (dsimp only [heapSub, injSub, envSub, bdCs, bdL, Chunk.bd, SVal.bd, tau, tauE, whole, SVal.ren, SAddr.ren, renCs, renL, Chunk.ren, Heap.find, findE, getE, Nat.beq, cond_true, cond_false, Heap.push, Heap.drop, Heap.set, nilE, nilV, List.map]; (repeat' apply And.intro) <;> first | rfl | trivial | decide | omega))
  · exact h.elim
def cons48 : Con := ⟨48, S48, [], []⟩
end Go.Proofs.Ytlmcdbgcbmjilaa
