/- Two parts of the proof. -/
import Derived.Test.YtefmjmghkedciaaSxNum
import Derived.Test.YtefmjmghkedciaaSxBitsC
import Derived.Test.YtefmjmghkedciaaSxHelp
set_option linter.unusedVariables false
set_option linter.unusedSimpArgs false
namespace Go.Proofs.Ytefmjmghkedciaa
open Go.Sx
def S150 : Sx.Spec := fun args H K => ∃ w n c xs, args = [.slice ⟨0,0,0,1⟩ n c] ∧ H = ⟨1,[(0,some ⟨w,[.ints .u8 n xs],0⟩)]⟩ ∧ xs.length = n ∧ n ≤ 1000000000 ∧ ∀ c', n ≤ c' → K (.slice ⟨1,0,0,1⟩ n c') ⟨2,[(1,some ⟨true,[.ints .u8 n xs],c'-n⟩),(0,some ⟨w,[.ints .u8 n xs],0⟩)]⟩
theorem s150 : Sound Try.prog 42 S150 := by
  refine fn_sound (Γ := withC []) (withC_ok trivial) c150_fits ?_
  rintro _ _ K ⟨w, n, c, xs, rfl, rfl, hl, hn, hK⟩
  refine ⟨rfl, fun w0 fp ρi => ?_⟩
  dsimp only [c150, keeps, SVal.bd, bdL, bdCs, Chunk.bd, keeps, SVal.bd, bdL, bdCs, Chunk.bd, evFn, evCode, evItems, evQ, evOp, Opd.ev, evL, getE, put, kill, dead, binV, kEq, Nat.beq, Nat.ble, Nat.blt, and, or, not, cond_true, cond_false, Heap.push, Heap.find, Heap.set, Heap.drop, findE, SVal.chunks, rdC, rdA, wrC, wrA, takeN, dropN, lenCs, Chunk.len, isB, isCell, cellCs, Res.ev, RV.ev, getL, argEnv, withC, findC, callS, denil, nilV, nilE, extL, extV, extCs, winC, rangeC, disjOk, clash, heapOf, putAll, putC, wrWin, newEnts, kap, getP, SVal.ren, SAddr.ren, renCs, renL, Chunk.ren, plainCs, plainV, AOp.looks, srcI, optE, bndE, slo, evInts, evBuild, zerosL, List.length_cons, List.length_nil, List.cons_append, List.nil_append, List.append_nil, Nat.reduceAdd, Nat.reduceSub, Nat.add_zero, Nat.zero_add, Bool.and_true, Bool.true_and, Bool.and_false, Bool.false_and, Bool.or_false, Bool.not_false, Bool.not_true, memN, Option.getD, List.set]
  refine fun q hq => ⟨fun h => ?_, fun h => ⟨by omega, rfl, rfl, rfl, by omega, fun c' hc => ?_⟩⟩
  · obtain ⟨rfl, rfl⟩ := hq h
    obtain rfl := List.eq_nil_of_length_eq_zero hl
    refine ret_nil [] [.ints .u8 0 []] rfl rfl rfl (hK 0 (Nat.le_refl _)) ?_ ?_ ?_ ?_ ?_
    all_goals (first | rfl | trivial | (dsimp only [heapSub, injSub, envSub, bdCs, bdL, Chunk.bd, SVal.bd, tau, tauE, whole, SVal.ren, SAddr.ren, renCs, renL, Chunk.ren, Heap.find, findE, getE, Nat.beq, cond_true, cond_false, Heap.push, Heap.drop, Heap.set, nilE, nilV, List.map]; (repeat' apply And.intro) <;> first | rfl | trivial | decide | omega))
  · simp only [Nat.zero_add, List.drop_zero, List.take_of_length_le (Nat.le_of_eq hl)] at *
    refine ret_tau [(1, 2)] rfl (hK c' hc) ?_ ?_ ?_ ?_ ?_
    all_goals (first | rfl | trivial | (dsimp only [heapSub, injSub, envSub, bdCs, bdL, Chunk.bd, SVal.bd, tau, tauE, whole, SVal.ren, SAddr.ren, renCs, renL, Chunk.ren, Heap.find, findE, getE, Nat.beq, cond_true, cond_false, Heap.push, Heap.drop, Heap.set, nilE, nilV, List.map]; (repeat' apply And.intro) <;> first | rfl | trivial | decide | omega))
end Go.Proofs.Ytefmjmghkedciaa

namespace Go.Proofs.Ytefmjmghkedciaa
open Go.Sx
def cons150 : Con := ⟨42, S150, [], [.ints .u8 0 []], []⟩
def S41 : Sx.Spec := fun args H K => ∃ w m c xs v n, args = [.slice ⟨0,0,0,1⟩ m c, .int .u64 v, .int .i64 n] ∧ H = ⟨1,[(0,some ⟨w,[.ints .u8 m xs],0⟩)]⟩ ∧ xs.length = m ∧ m ≤ 1000000 ∧ 0 ≤ v ∧ v < 2^64 ∧
  ∀ c', m + (min n 64).toNat ≤ c' → K (.slice ⟨1,0,0,1⟩ (m + (min n 64).toNat) c') ⟨2,[(1,some ⟨true,[.ints .u8 (m + (min n 64).toNat) (xs ++ numB v (min n 64).toNat)],c'-(m + (min n 64).toNat)⟩),(0,some ⟨w,[.ints .u8 m xs],0⟩)]⟩
theorem s41 : Sound Try.prog 41 S41 := by
  have hΓ : CallOk Try.prog (withC [cons150]) := withC_ok ⟨s150, trivial⟩
  refine fn_sound hΓ c41_fits ?_
  rintro _ _ K ⟨w, m, c, xs, v, n, rfl, rfl, hl, hn, hv, hv', hK⟩
  refine ⟨rfl, fun w0 fp ρi => ?_⟩
  dsimp only [c41, cons150, keeps, SVal.bd, bdL, bdCs, Chunk.bd, keeps, SVal.bd, bdL, bdCs, Chunk.bd, evFn, evCode, evItems, evQ, evOp, Opd.ev, evL, getE, put, kill, dead, binV, kEq, Nat.beq, Nat.ble, Nat.blt, and, or, not, cond_true, cond_false, Heap.push, Heap.find, Heap.set, Heap.drop, findE, SVal.chunks, rdC, rdA, wrC, wrA, takeN, dropN, lenCs, Chunk.len, isB, isCell, cellCs, Res.ev, RV.ev, getL, argEnv, withC, findC, callS, denil, nilV, nilE, extL, extV, extCs, winC, rangeC, disjOk, clash, heapOf, putAll, putC, wrWin, newEnts, kap, getP, SVal.ren, SAddr.ren, renCs, renL, Chunk.ren, plainCs, plainV, AOp.looks, srcI, optE, bndE, slo, evInts, evBuild, zerosL, List.length_cons, List.length_nil, List.cons_append, List.nil_append, List.append_nil, Nat.reduceAdd, Nat.reduceSub, Nat.add_zero, Nat.zero_add, Bool.and_true, Bool.true_and, Bool.and_false, Bool.false_and, Bool.or_false, Bool.not_false, Bool.not_true, memN, Option.getD, List.set]
  refine ⟨Nat.le_of_eq (Nat.zero_add m), _, _, _, _, rfl, rfl, ?_, ?_, fun c' hc => ?_⟩
  · simp [hl]
  · omega
  dsimp only [keeps, SVal.bd, bdL, bdCs, Chunk.bd, keeps, SVal.bd, bdL, bdCs, Chunk.bd, evFn, evCode, evItems, evQ, evOp, Opd.ev, evL, getE, put, kill, dead, binV, kEq, Nat.beq, Nat.ble, Nat.blt, and, or, not, cond_true, cond_false, Heap.push, Heap.find, Heap.set, Heap.drop, findE, SVal.chunks, rdC, rdA, wrC, wrA, takeN, dropN, lenCs, Chunk.len, isB, isCell, cellCs, Res.ev, RV.ev, getL, argEnv, withC, findC, callS, denil, nilV, nilE, extL, extV, extCs, winC, rangeC, disjOk, clash, heapOf, putAll, putC, wrWin, newEnts, kap, getP, SVal.ren, SAddr.ren, renCs, renL, Chunk.ren, plainCs, plainV, AOp.looks, srcI, optE, bndE, slo, evInts, evBuild, zerosL, List.length_cons, List.length_nil, List.cons_append, List.nil_append, List.append_nil, Nat.reduceAdd, Nat.reduceSub, Nat.add_zero, Nat.zero_add, Bool.and_true, Bool.true_and, Bool.and_false, Bool.false_and, Bool.or_false, Bool.not_false, Bool.not_true, memN, Option.getD, List.set]
  simp only [List.drop_zero, List.take_of_length_le (Nat.le_of_eq hl)]
  refine loop_rule hΓ (fun _ _ _ _ h => h) (S := {p : Nat × Nat // m + p.1 ≤ p.2 ∧ p.1 ≤ (min n 64).toNat})
    (fun p => ([(0, some (.slice ⟨1,0,0,1⟩ (m + p.1.1) p.1.2)), (1, some (.int .u64 (v / 256 ^ p.1.1))), (10, some (.int .i64 (min n 64))), (11, some (.int .i64 p.1.1))],
      ⟨2,[(1,some ⟨true,[.ints .u8 (m + p.1.1) (xs ++ numB v p.1.1)],p.1.2-(m + p.1.1)⟩),(0,some ⟨w,[.ints .u8 m xs],0⟩)]⟩)) (fun p => (min n 64).toNat - p.1.1) ?_ ?_
  · have e0 : (if (64 : Int) < n then 64 else n) = min n 64 := by omega
    refine ⟨⟨(0, c'), by simpa using hc, Nat.zero_le _⟩, tau [], ?_⟩
    simp only [e0, numB, List.append_nil, Nat.add_zero, Int.pow_zero, Int.ediv_one]
    refine sub_tau [] rfl ?_ ?_ ?_ ?_
    all_goals (first | rfl | trivial | (dsimp only [heapSub, injSub, envSub, bdCs, bdL, Chunk.bd, SVal.bd, tau, tauE, whole, SVal.ren, SAddr.ren, renCs, renL, Chunk.ren, Heap.find, findE, getE, Nat.beq, cond_true, cond_false, Heap.push, Heap.drop, Heap.set, nilE, nilV, List.map]; (repeat' apply And.intro) <;> first | rfl | trivial | decide | omega))
  · rintro ⟨⟨i, c1⟩, hc1, hi⟩
    dsimp only at hc1 hi
    dsimp only [c41_l0, keeps, SVal.bd, bdL, bdCs, Chunk.bd, keeps, SVal.bd, bdL, bdCs, Chunk.bd, evFn, evCode, evItems, evQ, evOp, Opd.ev, evL, getE, put, kill, dead, binV, kEq, Nat.beq, Nat.ble, Nat.blt, and, or, not, cond_true, cond_false, Heap.push, Heap.find, Heap.set, Heap.drop, findE, SVal.chunks, rdC, rdA, wrC, wrA, takeN, dropN, lenCs, Chunk.len, isB, isCell, cellCs, Res.ev, RV.ev, getL, argEnv, withC, findC, callS, denil, nilV, nilE, extL, extV, extCs, winC, rangeC, disjOk, clash, heapOf, putAll, putC, wrWin, newEnts, kap, getP, SVal.ren, SAddr.ren, renCs, renL, Chunk.ren, plainCs, plainV, AOp.looks, srcI, optE, bndE, slo, evInts, evBuild, zerosL, List.length_cons, List.length_nil, List.cons_append, List.nil_append, List.append_nil, Nat.reduceAdd, Nat.reduceSub, Nat.add_zero, Nat.zero_add, Bool.and_true, Bool.true_and, Bool.and_false, Bool.false_and, Bool.or_false, Bool.not_false, Bool.not_true, memN, Option.getD, List.set]
    refine ⟨fun h => ?_, fun h => ?_⟩
    · have hlt : (i : Int) < min n 64 := of_decide_eq_true h
      refine ⟨Nat.le_refl _, rfl, by simp [numB_length, hl], by omega, by omega, fun c2 hc2 => ⟨by decide, ⟨(i + 1, c2), by dsimp only; omega, by dsimp only; omega⟩, tau [(1, 3)], by dsimp only; omega, ?_⟩⟩
      have e1 : IntKind.i64.wrap (↑i + 1) = ((i + 1 : Nat) : Int) := wrap_i64 (by omega) (by omega)
      have e2 : ishr IntKind.u64 (v / 256 ^ i) 8 = v / 256 ^ (i + 1) := by
        rw [ishr_eq _ _ _ (by decide), Int.ediv_ediv_of_nonneg (Int.pow_nonneg (by omega)), Int.pow_succ]; rfl
      have e3 : xs ++ numB v i ++ List.take 1 (List.drop 0 [IntKind.u8.wrap (v / 256 ^ i)]) = xs ++ numB v (i + 1) := by
        simp [numB, wrap_u8]
      simp only [e1, e2, e3]
      refine sub_tau [(1, 3)] rfl ?_ ?_ ?_ ?_
      all_goals (first | rfl | trivial | (dsimp only [heapSub, injSub, envSub, bdCs, bdL, Chunk.bd, SVal.bd, tau, tauE, whole, SVal.ren, SAddr.ren, renCs, renL, Chunk.ren, Heap.find, findE, getE, Nat.beq, cond_true, cond_false, Heap.push, Heap.drop, Heap.set, nilE, nilV, List.map]; (repeat' apply And.intro) <;> first | rfl | trivial | decide | omega))
    · have hge : ¬ (i : Int) < min n 64 := of_decide_eq_false h
      have hik : i = (min n 64).toNat := by omega
      subst hik
      refine ret_tau [] rfl (hK c1 hc1) ?_ ?_ ?_ ?_ ?_
      all_goals (first | rfl | trivial | (dsimp only [heapSub, injSub, envSub, bdCs, bdL, Chunk.bd, SVal.bd, tau, tauE, whole, SVal.ren, SAddr.ren, renCs, renL, Chunk.ren, Heap.find, findE, getE, Nat.beq, cond_true, cond_false, Heap.push, Heap.drop, Heap.set, nilE, nilV, List.map]; (repeat' apply And.intro) <;> first | rfl | trivial | decide | omega))
end Go.Proofs.Ytefmjmghkedciaa
