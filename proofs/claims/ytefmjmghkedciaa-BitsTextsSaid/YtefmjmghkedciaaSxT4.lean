/- Two parts of the proof. -/
import Derived.Test.YtefmjmghkedciaaSxT2
set_option linter.unusedVariables false
set_option linter.unusedSimpArgs false
namespace Go.Proofs.Ytefmjmghkedciaa
open Go.Sx
/-- Two rows are the same. -/
def S42 : Sx.Spec := fun args H K => ∃ w1 w2 m c xs n d ys, args = [.slice ⟨0,0,0,1⟩ m c, .slice ⟨1,0,0,1⟩ n d] ∧ H = ⟨2,[(0,some ⟨w1,[.ints .u8 m xs],0⟩),(1,some ⟨w2,[.ints .u8 n ys],0⟩)]⟩ ∧ xs.length = m ∧ ys.length = n ∧ m ≤ 1000000000 ∧ n ≤ 1000000000 ∧
  K (.bool (decide (xs = ys))) ⟨2,[(0,some ⟨w1,[.ints .u8 m xs],0⟩),(1,some ⟨w2,[.ints .u8 n ys],0⟩)]⟩
theorem s42 : Sound Try.prog 18 S42 := by
  have hΓ : CallOk Try.prog (withC []) := withC_ok trivial
  refine fn_sound hΓ c42_fits ?_
  rintro _ _ K ⟨w1, w2, m, c, xs, n, d, ys, rfl, rfl, hl, hl', hm, hn, hK⟩
  refine ⟨rfl, fun w0 fp ρi => ?_⟩
  dsimp only [c42, keeps, SVal.bd, bdL, bdCs, Chunk.bd, keeps, SVal.bd, bdL, bdCs, Chunk.bd, evFn, evCode, evItems, evQ, evOp, Opd.ev, evL, getE, put, kill, dead, binV, kEq, Nat.beq, Nat.ble, Nat.blt, and, or, not, cond_true, cond_false, Heap.push, Heap.find, Heap.set, Heap.drop, findE, SVal.chunks, rdC, rdA, wrC, wrA, takeN, dropN, lenCs, Chunk.len, isB, isCell, cellCs, Res.ev, RV.ev, getL, argEnv, withC, findC, callS, denil, nilV, nilE, extL, extV, extCs, winC, rangeC, disjOk, clash, heapOf, putAll, putC, wrWin, newEnts, kap, getP, SVal.ren, SAddr.ren, renCs, renL, Chunk.ren, plainCs, plainV, AOp.looks, srcI, optE, bndE, slo, evInts, evBuild, zerosL, List.length_cons, List.length_nil, List.cons_append, List.nil_append, List.append_nil, Nat.reduceAdd, Nat.reduceSub, Nat.add_zero, Nat.zero_add, Bool.and_true, Bool.true_and, Bool.and_false, Bool.false_and, Bool.or_false, Bool.not_false, Bool.not_true, memN, Option.getD, List.set]
  refine ⟨fun h => ?_, fun h => ?_⟩
  · have hne : ¬ xs = ys := fun he => by subst he; simp [← hl, ← hl'] at h
    rw [decide_eq_false hne] at hK
    refine ret_tau [] rfl hK ?_ ?_ ?_ ?_ ?_
    all_goals (first | rfl | trivial | (dsimp only [heapSub, injSub, envSub, bdCs, bdL, Chunk.bd, SVal.bd, tau, tauE, whole, SVal.ren, SAddr.ren, renCs, renL, Chunk.ren, Heap.find, findE, getE, Nat.beq, cond_true, cond_false, Heap.push, Heap.drop, Heap.set, nilE, nilV, List.map]; (repeat' apply And.intro) <;> first | rfl | trivial | decide | omega))
  · have hmn : m = n := by
      have : (m : Int) = n := by simpa using h
      omega
    subst hmn
    refine loop_rule hΓ (fun _ _ _ _ h => h) (S := {i : Nat // i ≤ m ∧ xs.take i = ys.take i})
      (fun i => ([(0, some (.slice ⟨0,0,0,1⟩ m c)), (1, some (.slice ⟨1,0,0,1⟩ m d)), (5, some (.int .i64 i.1))], ⟨2,[(0,some ⟨w1,[.ints .u8 m xs],0⟩),(1,some ⟨w2,[.ints .u8 m ys],0⟩)]⟩)) (fun i => m - i.1) ?_ ?_
    · refine ⟨⟨0, Nat.zero_le _, by simp⟩, tau [], ?_⟩
      refine sub_tau [] rfl ?_ ?_ ?_ ?_
      all_goals (first | rfl | trivial | (dsimp only [heapSub, injSub, envSub, bdCs, bdL, Chunk.bd, SVal.bd, tau, tauE, whole, SVal.ren, SAddr.ren, renCs, renL, Chunk.ren, Heap.find, findE, getE, Nat.beq, cond_true, cond_false, Heap.push, Heap.drop, Heap.set, nilE, nilV, List.map]; (repeat' apply And.intro) <;> first | rfl | trivial | decide | omega))
    · rintro ⟨i, hi, he⟩
      dsimp only
      dsimp only [c42_l0, keeps, SVal.bd, bdL, bdCs, Chunk.bd, keeps, SVal.bd, bdL, bdCs, Chunk.bd, evFn, evCode, evItems, evQ, evOp, Opd.ev, evL, getE, put, kill, dead, binV, kEq, Nat.beq, Nat.ble, Nat.blt, and, or, not, cond_true, cond_false, Heap.push, Heap.find, Heap.set, Heap.drop, findE, SVal.chunks, rdC, rdA, wrC, wrA, takeN, dropN, lenCs, Chunk.len, isB, isCell, cellCs, Res.ev, RV.ev, getL, argEnv, withC, findC, callS, denil, nilV, nilE, extL, extV, extCs, winC, rangeC, disjOk, clash, heapOf, putAll, putC, wrWin, newEnts, kap, getP, SVal.ren, SAddr.ren, renCs, renL, Chunk.ren, plainCs, plainV, AOp.looks, srcI, optE, bndE, slo, evInts, evBuild, zerosL, List.length_cons, List.length_nil, List.cons_append, List.nil_append, List.append_nil, Nat.reduceAdd, Nat.reduceSub, Nat.add_zero, Nat.zero_add, Bool.and_true, Bool.true_and, Bool.and_false, Bool.false_and, Bool.or_false, Bool.not_false, Bool.not_true, memN, Option.getD, List.set]
      refine ⟨fun h => ?_, fun h => ?_⟩
      · have hlt : (i : Int) < m := of_decide_eq_true h
        refine ⟨by omega, hlt, by omega, by omega, hlt, by omega, fun h => ?_, fun h => ?_⟩
        · have hne : ¬ xs = ys := fun he => by subst he; simp at h
          rw [decide_eq_false hne] at hK
          refine ret_tau [] rfl hK ?_ ?_ ?_ ?_ ?_
          all_goals (first | rfl | trivial | (dsimp only [heapSub, injSub, envSub, bdCs, bdL, Chunk.bd, SVal.bd, tau, tauE, whole, SVal.ren, SAddr.ren, renCs, renL, Chunk.ren, Heap.find, findE, getE, Nat.beq, cond_true, cond_false, Heap.push, Heap.drop, Heap.set, nilE, nilV, List.map]; (repeat' apply And.intro) <;> first | rfl | trivial | decide | omega))
        · have h : xs.getD i 0 = ys.getD i 0 := by simpa using h
          have e1 : IntKind.i64.wrap (↑i + 1) = ((i + 1 : Nat) : Int) := wrap_i64 (by omega) (by omega)
          refine ⟨⟨i + 1, by omega, by rw [take_succ_getD (by omega), take_succ_getD (by omega), he, h]⟩, tau [], by dsimp only; omega, ?_⟩
          simp only [e1]
          refine sub_tau [] rfl ?_ ?_ ?_ ?_
          all_goals (first | rfl | trivial | (dsimp only [heapSub, injSub, envSub, bdCs, bdL, Chunk.bd, SVal.bd, tau, tauE, whole, SVal.ren, SAddr.ren, renCs, renL, Chunk.ren, Heap.find, findE, getE, Nat.beq, cond_true, cond_false, Heap.push, Heap.drop, Heap.set, nilE, nilV, List.map]; (repeat' apply And.intro) <;> first | rfl | trivial | decide | omega))
      · have hge : ¬ (i : Int) < m := of_decide_eq_false h
        have hxy : xs = ys := by
          rw [← List.take_of_length_le (l := xs) (i := i) (by omega), ← List.take_of_length_le (l := ys) (i := i) (by omega), he]
        rw [decide_eq_true hxy] at hK
        refine ret_tau [] rfl hK ?_ ?_ ?_ ?_ ?_
        all_goals (first | rfl | trivial | (dsimp only [heapSub, injSub, envSub, bdCs, bdL, Chunk.bd, SVal.bd, tau, tauE, whole, SVal.ren, SAddr.ren, renCs, renL, Chunk.ren, Heap.find, findE, getE, Nat.beq, cond_true, cond_false, Heap.push, Heap.drop, Heap.set, nilE, nilV, List.map]; (repeat' apply And.intro) <;> first | rfl | trivial | decide | omega))
/-- The number that bytes are. -/
def S44 : Sx.Spec := fun args H K => ∃ w m c xs, args = [.slice ⟨0,0,0,1⟩ m c] ∧ H = ⟨1,[(0,some ⟨w,[.ints .u8 m xs],0⟩)]⟩ ∧ xs.length = m ∧ m ≤ c ∧ m ≤ 1000000000 ∧ Byt xs ∧
  K (.int .u64 (readB (xs.take 8))) ⟨1,[(0,some ⟨w,[.ints .u8 m xs],0⟩)]⟩
end Go.Proofs.Ytefmjmghkedciaa

namespace Go.Proofs.Ytefmjmghkedciaa
open Go.Sx
theorem s43 : Sound Try.prog 63 S41 := by
  have hΓ : CallOk Try.prog (withC []) := withC_ok trivial
  refine fn_sound hΓ c43_fits ?_
  rintro _ _ K ⟨w, m, c, xs, v, n, rfl, rfl, hl, hn, hv, hv', hK⟩
  refine ⟨rfl, fun w0 fp ρi => ?_⟩
  dsimp only [c43, keeps, SVal.bd, bdL, bdCs, Chunk.bd, keeps, SVal.bd, bdL, bdCs, Chunk.bd, evFn, evCode, evItems, evQ, evOp, Opd.ev, evL, getE, put, kill, dead, binV, kEq, Nat.beq, Nat.ble, Nat.blt, and, or, not, cond_true, cond_false, Heap.push, Heap.find, Heap.set, Heap.drop, findE, SVal.chunks, rdC, rdA, wrC, wrA, takeN, dropN, lenCs, Chunk.len, isB, isCell, cellCs, Res.ev, RV.ev, getL, argEnv, withC, findC, callS, denil, nilV, nilE, extL, extV, extCs, winC, rangeC, disjOk, clash, heapOf, putAll, putC, wrWin, newEnts, kap, getP, SVal.ren, SAddr.ren, renCs, renL, Chunk.ren, plainCs, plainV, AOp.looks, srcI, optE, bndE, slo, evInts, evBuild, zerosL, List.length_cons, List.length_nil, List.cons_append, List.nil_append, List.append_nil, Nat.reduceAdd, Nat.reduceSub, Nat.add_zero, Nat.zero_add, Bool.and_true, Bool.true_and, Bool.and_false, Bool.false_and, Bool.or_false, Bool.not_false, Bool.not_true, memN, Option.getD, List.set]
  refine ⟨Nat.le_of_eq (Nat.zero_add m), rfl, rfl, rfl, by omega, fun c' hc => ?_⟩
  simp only [List.drop_zero, List.take_of_length_le (Nat.le_of_eq hl), Nat.zero_add] at hc ⊢
  refine loop_rule hΓ (fun _ _ _ _ h => h) (S := {p : Nat × Nat // m + p.1 ≤ p.2 ∧ p.1 ≤ (min n 64).toNat})
    (fun p => ([(7, some (.slice ⟨1,0,0,1⟩ (m + p.1.1) p.1.2)), (1, some (.int .u64 v)), (2, some (.int .i64 n)), (8, some (.int .i64 p.1.1))],
      ⟨2,[(1,some ⟨true,[.ints .u8 (m + p.1.1) (xs ++ numB v p.1.1)],p.1.2-(m + p.1.1)⟩),(0,some ⟨w,[.ints .u8 m xs],0⟩)]⟩)) (fun p => (min n 64).toNat - p.1.1) ?_ ?_
  · refine ⟨⟨(0, c'), by simpa using hc, Nat.zero_le _⟩, tau [(1, 2)], ?_⟩
    simp only [numB, List.append_nil, Nat.add_zero]
    refine sub_tau [(1, 2)] rfl ?_ ?_ ?_ ?_
    all_goals (first | rfl | trivial | (dsimp only [heapSub, injSub, envSub, bdCs, bdL, Chunk.bd, SVal.bd, tau, tauE, whole, SVal.ren, SAddr.ren, renCs, renL, Chunk.ren, Heap.find, findE, getE, Nat.beq, cond_true, cond_false, Heap.push, Heap.drop, Heap.set, nilE, nilV, List.map]; (repeat' apply And.intro) <;> first | rfl | trivial | decide | omega))
  · rintro ⟨⟨i, c1⟩, hc1, hi⟩
    dsimp only at hc1 hi
    dsimp only [c43_l0, keeps, SVal.bd, bdL, bdCs, Chunk.bd, keeps, SVal.bd, bdL, bdCs, Chunk.bd, evFn, evCode, evItems, evQ, evOp, Opd.ev, evL, getE, put, kill, dead, binV, kEq, Nat.beq, Nat.ble, Nat.blt, and, or, not, cond_true, cond_false, Heap.push, Heap.find, Heap.set, Heap.drop, findE, SVal.chunks, rdC, rdA, wrC, wrA, takeN, dropN, lenCs, Chunk.len, isB, isCell, cellCs, Res.ev, RV.ev, getL, argEnv, withC, findC, callS, denil, nilV, nilE, extL, extV, extCs, winC, rangeC, disjOk, clash, heapOf, putAll, putC, wrWin, newEnts, kap, getP, SVal.ren, SAddr.ren, renCs, renL, Chunk.ren, plainCs, plainV, AOp.looks, srcI, optE, bndE, slo, evInts, evBuild, zerosL, List.length_cons, List.length_nil, List.cons_append, List.nil_append, List.append_nil, Nat.reduceAdd, Nat.reduceSub, Nat.add_zero, Nat.zero_add, Bool.and_true, Bool.true_and, Bool.and_false, Bool.false_and, Bool.or_false, Bool.not_false, Bool.not_true, memN, Option.getD, List.set]
    refine ⟨decide ((i : Int) < min n 64), fun h => ?_, fun h => ?_, fun h => ?_, fun h => ?_⟩
    · have : (i : Int) < n := of_decide_eq_true h
      refine ⟨⟨rfl, rfl, trivial⟩, ?_⟩
      rw [decide_eq_decide]; omega
    · have : ¬ (i : Int) < n := of_decide_eq_false h
      symm; rw [decide_eq_false_iff_not]; omega
    · have hlt : (i : Int) < min n 64 := of_decide_eq_true h
      have e1 : IntKind.i64.wrap (↑i + 1) = ((i + 1 : Nat) : Int) := wrap_i64 (by omega) (by omega)
      have e2 : IntKind.i64.wrap (8 * ↑i) = ((8 * i : Nat) : Int) := wrap_i64 (by omega) (by omega)
      refine ⟨fun h8 => ?_, fun h8 => ?_⟩
      · have h8 : (i : Int) < 8 := of_decide_eq_true h8
        have e3 : ishr IntKind.u64 v ((8 * i : Nat) : Int) = v / 256 ^ i := by
          rw [ishr_eq _ _ _ (by simp only [Int.toNat_natCast]; show 8 * i ≤ 64; omega), Int.toNat_natCast, Int.pow_mul]; rfl
        simp only [e1, e2, e3, List.drop_zero, wrap_u8]
        refine ⟨by omega, Nat.le_refl _, trivial, by simp [numB_length, hl], by omega, by omega, fun c2 hc2 => ⟨⟨(i + 1, c2), by dsimp only; omega, by dsimp only; omega⟩, tau [(1, 3)], by dsimp only; omega, ?_⟩⟩
        have e4 : xs ++ numB v i ++ List.take 1 [v / 256 ^ i % 256] = xs ++ numB v (i + 1) := by simp [numB]
        simp only [e4]
        refine sub_tau [(1, 3)] rfl ?_ ?_ ?_ ?_
        all_goals (first | rfl | trivial | (dsimp only [heapSub, injSub, envSub, bdCs, bdL, Chunk.bd, SVal.bd, tau, tauE, whole, SVal.ren, SAddr.ren, renCs, renL, Chunk.ren, Heap.find, findE, getE, Nat.beq, cond_true, cond_false, Heap.push, Heap.drop, Heap.set, nilE, nilV, List.map]; (repeat' apply And.intro) <;> first | rfl | trivial | decide | omega))
      · have h8 : ¬ (i : Int) < 8 := of_decide_eq_false h8
        simp only [e1, List.drop_zero]
        refine ⟨Nat.le_refl _, trivial, by simp [numB_length, hl], by omega, by omega, fun c2 hc2 => ⟨⟨(i + 1, c2), by dsimp only; omega, by dsimp only; omega⟩, tau [(1, 3)], by dsimp only; omega, ?_⟩⟩
        have e5 : v / 256 ^ i % 256 = 0 := by
          have h1 : (256 : Int) ^ 8 ≤ 256 ^ i := ipow_le 256 rfl (by omega) (by omega)
          rw [Int.ediv_eq_zero_of_lt hv (by omega)]; rfl
        have e4 : xs ++ numB v i ++ List.take 1 [0] = xs ++ numB v (i + 1) := by simp [numB, e5]
        simp only [e4]
        refine sub_tau [(1, 3)] rfl ?_ ?_ ?_ ?_
        all_goals (first | rfl | trivial | (dsimp only [heapSub, injSub, envSub, bdCs, bdL, Chunk.bd, SVal.bd, tau, tauE, whole, SVal.ren, SAddr.ren, renCs, renL, Chunk.ren, Heap.find, findE, getE, Nat.beq, cond_true, cond_false, Heap.push, Heap.drop, Heap.set, nilE, nilV, List.map]; (repeat' apply And.intro) <;> first | rfl | trivial | decide | omega))
    · have hge : ¬ (i : Int) < min n 64 := of_decide_eq_false h
      have hik : i = (min n 64).toNat := by omega
      subst hik
      refine ret_tau [] rfl (hK c1 hc1) ?_ ?_ ?_ ?_ ?_
      all_goals (first | rfl | trivial | (dsimp only [heapSub, injSub, envSub, bdCs, bdL, Chunk.bd, SVal.bd, tau, tauE, whole, SVal.ren, SAddr.ren, renCs, renL, Chunk.ren, Heap.find, findE, getE, Nat.beq, cond_true, cond_false, Heap.push, Heap.drop, Heap.set, nilE, nilV, List.map]; (repeat' apply And.intro) <;> first | rfl | trivial | decide | omega))
end Go.Proofs.Ytefmjmghkedciaa
