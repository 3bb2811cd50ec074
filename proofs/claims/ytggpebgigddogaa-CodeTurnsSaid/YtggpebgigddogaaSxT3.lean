/- Part of the proof: SxT3. -/
import Derived.Test.YtggpebgigddogaaSxT2
namespace Go.Proofs.Ytggpebgigddogaa
open Go.Sx
/-- Two rows are the same. -/
def S42 : Sx.Spec := fun args H K => ∃ w1 w2 m c xs n d ys, args = [.slice ⟨0,0,0,1⟩ m c, .slice ⟨1,0,0,1⟩ n d] ∧ H = ⟨2,[(0,some ⟨w1,[.ints .u8 m xs],0⟩),(1,some ⟨w2,[.ints .u8 n ys],0⟩)]⟩ ∧ xs.length = m ∧ ys.length = n ∧ m ≤ 1000000000 ∧ n ≤ 1000000000 ∧
  K (.bool (decide (xs = ys))) ⟨2,[(0,some ⟨w1,[.ints .u8 m xs],0⟩),(1,some ⟨w2,[.ints .u8 n ys],0⟩)]⟩
theorem s42 : Sound Try.prog 25 S42 := by
  have hΓ : CallOk Try.prog (withC []) := withC_ok trivial
  refine fn_sound hΓ c42_fits ?_
  rintro _ _ K ⟨w1, w2, m, c, xs, n, d, ys, rfl, rfl, hl, hl', hm, hn, hK⟩
  refine ⟨rfl, fun w0 fp ρi => ?_⟩
  dsimp only [c42, keeps, SVal.bd, bdL, bdCs, Chunk.bd, keeps, SVal.bd, bdL, bdCs, Chunk.bd, evFn, evCode, evItems, evQ, evOp, Opd.ev, evL, getE, put, kill, dead, binV, kEq, Nat.beq, Nat.ble, Nat.blt, and, or, not, cond_true, cond_false, Heap.push, Heap.find, Heap.set, Heap.drop, findE, SVal.chunks, rdC, rdA, wrC, wrA, takeN, dropN, lenCs, Chunk.len, isB, isCell, cellCs, Res.ev, RV.ev, getL, argEnv, withC, findC, callS, denil, nilV, nilE, extL, extV, extCs, winC, rangeC, disjOk, clash, heapOf, putAll, putC, wrWin, newEnts, kap, getP, SVal.ren, SAddr.ren, renCs, renL, Chunk.ren, plainCs, plainV, AOp.looks, srcI, optE, bndE, slo, evInts, evBuild, zerosL, List.length_cons, List.length_nil, List.cons_append, List.nil_append, List.append_nil, Nat.reduceAdd, Nat.reduceSub, Nat.add_zero, Nat.zero_add, Bool.and_true, Bool.true_and, Bool.and_false, Bool.false_and, Bool.or_false, Bool.not_false, Bool.not_true, memN, Option.getD, List.set]
  refine ⟨fun h => ?_, fun h => ?_⟩
  · have hne : ¬ xs = ys := fun he => by subst he; simp [← hl, ← hl'] at h
    rw [decide_eq_false hne] at hK
    refine ret_tau [] rfl hK ?_ ?_ ?_ ?_ ?_
    all_goals (first | rfl | trivial | (dsimp only [heapSub, injSub, envSub, bdCs, bdL, Chunk.bd, SVal.bd, tau, tauE, whole, SVal.ren, SAddr.ren, renCs, renL, Chunk.ren, Heap.find, findE, getE, Nat.beq, cond_true, cond_false, Heap.push, Heap.drop, Heap.set, nilE, nilV, List.map]; (repeat' apply And.intro) <;> first | rfl | trivial | decide | omega))
  · have hmn : m = n := by
      have : (m : Int) = n := by simpa using h
      omega
    subst hmn
    refine loop_rule hΓ (fun _ _ _ _ h => h) (S := {i : Nat // i ≤ m ∧ xs.take i = ys.take i})
      (fun i => ([(0, some (.slice ⟨0,0,0,1⟩ m c)), (1, some (.slice ⟨1,0,0,1⟩ m d)), (5, some (.int .i64 i.1))], ⟨2,[(0,some ⟨w1,[.ints .u8 m xs],0⟩),(1,some ⟨w2,[.ints .u8 m ys],0⟩)]⟩)) (fun i => m - i.1) ?_ ?_
    · refine ⟨⟨0, Nat.zero_le _, by simp⟩, tau [], ?_⟩
      refine sub_tau [] rfl ?_ ?_ ?_ ?_
      all_goals (first | rfl | trivial | (dsimp only [heapSub, injSub, envSub, bdCs, bdL, Chunk.bd, SVal.bd, tau, tauE, whole, SVal.ren, SAddr.ren, renCs, renL, Chunk.ren, Heap.find, findE, getE, Nat.beq, cond_true, cond_false, Heap.push, Heap.drop, Heap.set, nilE, nilV, List.map]; (repeat' apply And.intro) <;> first | rfl | trivial | decide | omega))
    · rintro ⟨i, hi, he⟩
      dsimp only
      dsimp only [c42_l0, keeps, SVal.bd, bdL, bdCs, Chunk.bd, keeps, SVal.bd, bdL, bdCs, Chunk.bd, evFn, evCode, evItems, evQ, evOp, Opd.ev, evL, getE, put, kill, dead, binV, kEq, Nat.beq, Nat.ble, Nat.blt, and, or, not, cond_true, cond_false, Heap.push, Heap.find, Heap.set, Heap.drop, findE, SVal.chunks, rdC, rdA, wrC, wrA, takeN, dropN, lenCs, Chunk.len, isB, isCell, cellCs, Res.ev, RV.ev, getL, argEnv, withC, findC, callS, denil, nilV, nilE, extL, extV, extCs, winC, rangeC, disjOk, clash, heapOf, putAll, putC, wrWin, newEnts, kap, getP, SVal.ren, SAddr.ren, renCs, renL, Chunk.ren, plainCs, plainV, AOp.looks, srcI, optE, bndE, slo, evInts, evBuild, zerosL, List.length_cons, List.length_nil, List.cons_append, List.nil_append, List.append_nil, Nat.reduceAdd, Nat.reduceSub, Nat.add_zero, Nat.zero_add, Bool.and_true, Bool.true_and, Bool.and_false, Bool.false_and, Bool.or_false, Bool.not_false, Bool.not_true, memN, Option.getD, List.set]
      refine ⟨fun h => ?_, fun h => ?_⟩
      · have hlt : (i : Int) < m := of_decide_eq_true h
        refine ⟨by omega, hlt, by omega, by omega, hlt, by omega, fun h => ?_, fun h => ?_⟩
        · have hne : ¬ xs = ys := fun he => by subst he; simp at h
          rw [decide_eq_false hne] at hK
          refine ret_tau [] rfl hK ?_ ?_ ?_ ?_ ?_
          all_goals (first | rfl | trivial | (dsimp only [heapSub, injSub, envSub, bdCs, bdL, Chunk.bd, SVal.bd, tau, tauE, whole, SVal.ren, SAddr.ren, renCs, renL, Chunk.ren, Heap.find, findE, getE, Nat.beq, cond_true, cond_false, Heap.push, Heap.drop, Heap.set, nilE, nilV, List.map]; (repeat' apply And.intro) <;> first | rfl | trivial | decide | omega))
        · have h : xs.getD i 0 = ys.getD i 0 := by simpa using h
          have e1 : IntKind.i64.wrap (↑i + 1) = ((i + 1 : Nat) : Int) := wrap_i64 (by omega) (by omega)
          refine ⟨⟨i + 1, by omega, by rw [take_succ_getD (by omega), take_succ_getD (by omega), he, h]⟩, tau [], by dsimp only; omega, ?_⟩
          simp only [e1]
          refine sub_tau [] rfl ?_ ?_ ?_ ?_
          all_goals (first | rfl | trivial | (dsimp only [heapSub, injSub, envSub, bdCs, bdL, Chunk.bd, SVal.bd, tau, tauE, whole, SVal.ren, SAddr.ren, renCs, renL, Chunk.ren, Heap.find, findE, getE, Nat.beq, cond_true, cond_false, Heap.push, Heap.drop, Heap.set, nilE, nilV, List.map]; (repeat' apply And.intro) <;> first | rfl | trivial | decide | omega))
      · have hge : ¬ (i : Int) < m := of_decide_eq_false h
        have hxy : xs = ys := by
          rw [← List.take_of_length_le (l := xs) (i := i) (by omega), ← List.take_of_length_le (l := ys) (i := i) (by omega), he]
        rw [decide_eq_true hxy] at hK
        refine ret_tau [] rfl hK ?_ ?_ ?_ ?_ ?_
        all_goals (first | rfl | trivial | (dsimp only [heapSub, injSub, envSub, bdCs, bdL, Chunk.bd, SVal.bd, tau, tauE, whole, SVal.ren, SAddr.ren, renCs, renL, Chunk.ren, Heap.find, findE, getE, Nat.beq, cond_true, cond_false, Heap.push, Heap.drop, Heap.set, nilE, nilV, List.map]; (repeat' apply And.intro) <;> first | rfl | trivial | decide | omega))
/-- The number that bytes are. -/
def S44 : Sx.Spec := fun args H K => ∃ w m c xs, args = [.slice ⟨0,0,0,1⟩ m c] ∧ H = ⟨1,[(0,some ⟨w,[.ints .u8 m xs],0⟩)]⟩ ∧ xs.length = m ∧ m ≤ c ∧ m ≤ 1000000000 ∧ Byt xs ∧
  K (.int .u64 (readB (xs.take 8))) ⟨1,[(0,some ⟨w,[.ints .u8 m xs],0⟩)]⟩
theorem s44 : Sound Try.prog 56 S44 := by
  have hΓ : CallOk Try.prog (withC []) := withC_ok trivial
  refine fn_sound hΓ c44_fits ?_
  rintro _ _ K ⟨w, m, c, xs, rfl, rfl, hl, hc, hm, hb, hK⟩
  refine ⟨rfl, fun w0 fp ρi => ?_⟩
  dsimp only [c44, keeps, SVal.bd, bdL, bdCs, Chunk.bd, keeps, SVal.bd, bdL, bdCs, Chunk.bd, evFn, evCode, evItems, evQ, evOp, Opd.ev, evL, getE, put, kill, dead, binV, kEq, Nat.beq, Nat.ble, Nat.blt, and, or, not, cond_true, cond_false, Heap.push, Heap.find, Heap.set, Heap.drop, findE, SVal.chunks, rdC, rdA, wrC, wrA, takeN, dropN, lenCs, Chunk.len, isB, isCell, cellCs, Res.ev, RV.ev, getL, argEnv, withC, findC, callS, denil, nilV, nilE, extL, extV, extCs, winC, rangeC, disjOk, clash, heapOf, putAll, putC, wrWin, newEnts, kap, getP, SVal.ren, SAddr.ren, renCs, renL, Chunk.ren, plainCs, plainV, AOp.looks, srcI, optE, bndE, slo, evInts, evBuild, zerosL, List.length_cons, List.length_nil, List.cons_append, List.nil_append, List.append_nil, Nat.reduceAdd, Nat.reduceSub, Nat.add_zero, Nat.zero_add, Bool.and_true, Bool.true_and, Bool.and_false, Bool.false_and, Bool.or_false, Bool.not_false, Bool.not_true, memN, Option.getD, List.set]
  have e0 : (if (8 : Int) < (m : Int) then (8 : Int) else m) = ((min m 8 : Nat) : Int) := by omega
  simp only [e0, Int.toNat_natCast, Nat.sub_zero]
  refine ⟨by omega, by omega, ?_⟩
  refine loop_rule hΓ (fun _ _ _ _ h => h) (S := {i : Nat // i ≤ min m 8})
      (fun i => ([(9, some (.slice ⟨0,0,0,1⟩ (min m 8) c)), (10, some (.int .i64 (min m 8 : Nat))), (2, some (.int .u64 (readB (xs.take i.1)))), (11, some (.int .i64 i.1))], ⟨1,[(0,some ⟨w,[.ints .u8 m xs],0⟩)]⟩)) (fun i => min m 8 - i.1) ?_ ?_
  · refine ⟨⟨0, Nat.zero_le _⟩, tau [], ?_⟩
    refine sub_tau [] rfl ?_ ?_ ?_ ?_
    all_goals (first | rfl | trivial | (dsimp only [heapSub, injSub, envSub, bdCs, bdL, Chunk.bd, SVal.bd, tau, tauE, whole, SVal.ren, SAddr.ren, renCs, renL, Chunk.ren, Heap.find, findE, getE, Nat.beq, cond_true, cond_false, Heap.push, Heap.drop, Heap.set, nilE, nilV, List.map]; (repeat' apply And.intro) <;> first | rfl | trivial | decide | omega))
  · rintro ⟨i, hi⟩
    dsimp only
    dsimp only [c44_l0, keeps, SVal.bd, bdL, bdCs, Chunk.bd, keeps, SVal.bd, bdL, bdCs, Chunk.bd, evFn, evCode, evItems, evQ, evOp, Opd.ev, evL, getE, put, kill, dead, binV, kEq, Nat.beq, Nat.ble, Nat.blt, and, or, not, cond_true, cond_false, Heap.push, Heap.find, Heap.set, Heap.drop, findE, SVal.chunks, rdC, rdA, wrC, wrA, takeN, dropN, lenCs, Chunk.len, isB, isCell, cellCs, Res.ev, RV.ev, getL, argEnv, withC, findC, callS, denil, nilV, nilE, extL, extV, extCs, winC, rangeC, disjOk, clash, heapOf, putAll, putC, wrWin, newEnts, kap, getP, SVal.ren, SAddr.ren, renCs, renL, Chunk.ren, plainCs, plainV, AOp.looks, srcI, optE, bndE, slo, evInts, evBuild, zerosL, List.length_cons, List.length_nil, List.cons_append, List.nil_append, List.append_nil, Nat.reduceAdd, Nat.reduceSub, Nat.add_zero, Nat.zero_add, Bool.and_true, Bool.true_and, Bool.and_false, Bool.false_and, Bool.or_false, Bool.not_false, Bool.not_true, memN, Option.getD, List.set]
    refine ⟨fun h => ?_, fun h => ?_⟩
    · have hlt : (i : Int) < (min m 8 : Nat) := of_decide_eq_true h
      have hx := hb.getD i
      have e1 : IntKind.i64.wrap (↑i + 1) = ((i + 1 : Nat) : Int) := wrap_i64 (by omega) (by omega)
      have e2 : IntKind.i64.wrap (8 * ↑i) = ((8 * i : Nat) : Int) := wrap_i64 (by omega) (by omega)
      have e3 : IntKind.u64.wrap (xs.getD i 0) = xs.getD i 0 := by rw [wrap_u64]; omega
      have hr := readB_lt (hb.take i)
      rw [List.length_take, Nat.min_eq_left (by omega)] at hr
      have e4 : ior .u64 (readB (xs.take i)) (ishl .u64 (xs.getD i 0) ((8 * i : Nat) : Int)) = readB (xs.take (i + 1)) := by
        have hp : (256 : Int) ^ i = 2 ^ (8 * i) := by rw [Int.pow_mul]; rfl
        have hle : xs.getD i 0 * 2 ^ (8 * i) + 2 ^ (8 * i) ≤ 18446744073709551616 := by
          have h1 : xs.getD i 0 * 2 ^ (8 * i) + 2 ^ (8 * i) = (xs.getD i 0 + 1) * 2 ^ (8 * i) := by rw [Int.add_mul, Int.one_mul]
          have h2 : (xs.getD i 0 + 1) * 2 ^ (8 * i) ≤ 256 * 2 ^ (8 * i) := Int.mul_le_mul_of_nonneg_right (by omega) (Int.pow_nonneg (by omega))
          have h3 : (256 : Int) * 2 ^ (8 * i) = 2 ^ (8 * (i + 1)) := by rw [Nat.mul_add, Int.pow_add]; omega
          have h4 : (2 : Int) ^ (8 * (i + 1)) ≤ 2 ^ 64 := by have := Nat.pow_le_pow_right (n := 2) (by omega) (show 8 * (i + 1) ≤ 64 by omega); exact_mod_cast this
          omega
        rw [hp] at hr
        have h0 : 0 ≤ xs.getD i 0 * 2 ^ (8 * i) := Int.mul_nonneg hx.1 (Int.pow_nonneg (by omega))
        rw [take_succ_getD (by omega), readB_snoc, List.length_take, Nat.min_eq_left (by omega), ishl_u64 (by omega), Int.toNat_natCast, Int.emod_eq_of_lt h0 (by omega), hp]
        exact ior_disj hr.1 hr.2 hx.1 rfl (by omega)
      refine ⟨by omega, hlt, by omega, ?_⟩
      simp only [Int.toNat_natCast, Nat.zero_add, e1, e2, e3, e4]
      refine ⟨by omega, ⟨i + 1, by omega⟩, tau [], by dsimp only; omega, ?_⟩
      refine sub_tau [] rfl ?_ ?_ ?_ ?_
      all_goals (first | rfl | trivial | (dsimp only [heapSub, injSub, envSub, bdCs, bdL, Chunk.bd, SVal.bd, tau, tauE, whole, SVal.ren, SAddr.ren, renCs, renL, Chunk.ren, Heap.find, findE, getE, Nat.beq, cond_true, cond_false, Heap.push, Heap.drop, Heap.set, nilE, nilV, List.map]; (repeat' apply And.intro) <;> first | rfl | trivial | decide | omega))
    · have hge : ¬ (i : Int) < (min m 8 : Nat) := of_decide_eq_false h
      have hxs : xs.take i = xs.take 8 := by
        have : i = min m 8 := by omega
        subst this
        rcases Nat.le_total m 8 with h | h
        · rw [Nat.min_eq_left h, List.take_of_length_le (by omega), List.take_of_length_le (by omega)]
        · rw [Nat.min_eq_right h]
      rw [← hxs] at hK
      refine ret_tau [] rfl hK ?_ ?_ ?_ ?_ ?_
      all_goals (first | rfl | trivial | (dsimp only [heapSub, injSub, envSub, bdCs, bdL, Chunk.bd, SVal.bd, tau, tauE, whole, SVal.ren, SAddr.ren, renCs, renL, Chunk.ren, Heap.find, findE, getE, Nat.beq, cond_true, cond_false, Heap.push, Heap.drop, Heap.set, nilE, nilV, List.map]; (repeat' apply And.intro) <;> first | rfl | trivial | decide | omega))
end Go.Proofs.Ytggpebgigddogaa
