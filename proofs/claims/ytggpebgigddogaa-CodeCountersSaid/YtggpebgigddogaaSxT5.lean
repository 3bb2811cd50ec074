/- Part of the proof: SxT5. -/
import Derived.Test.YtggpebgigddogaaSxT4
import Derived.Test.YtggpebgigddogaaSxBit
set_option linter.unusedVariables false
set_option linter.unusedSimpArgs false
namespace Go.Proofs.Ytggpebgigddogaa
open Go.Sx
def There (m : Nat) (at_ n : Int) : Prop := 0 <= at_ /\ 0 <= n /\ n <= 64 /\ n <= 8 * m /\ at_ <= 8 * m - n
instance (m at_ n) : Decidable (There m at_ n) := by unfold There; exact inferInstance
def S151 : Sx.Spec := fun args H K => ∃ w m c xs a n, args = [.slice ⟨0,0,0,1⟩ m c, .int .i64 a, .int .i64 n] /\ H = ⟨1,[(0,some ⟨w,[.ints .u8 m xs],0⟩)]⟩ /\ m <= 1000000 /\ I64 a /\ I64 n /\
  K (.bool (decide (There m a n))) ⟨1,[(0,some ⟨w,[.ints .u8 m xs],0⟩)]⟩
theorem s151 : Sound Try.prog 66 S151 := by
  have hΓ : CallOk Try.prog (withC []) := withC_ok trivial
  refine fn_sound hΓ c151_fits ?_
  rintro _ _ K ⟨w, m, c, xs, a, n, rfl, rfl, hm, ha, hn, hK⟩
  refine ⟨rfl, fun w0 fp ρi => ?_⟩
  have e1 : IntKind.i64.wrap (8 * (m : Int)) = 8 * m := wrap_i64 (by omega) (by omega)
  have e2 : 0 <= n -> n <= 64 -> IntKind.i64.wrap (8 * (m : Int) - n) = 8 * m - n := fun h1 h2 => wrap_i64 (by omega) (by omega)
  dsimp only [c151, keeps, SVal.bd, bdL, bdCs, Chunk.bd, keeps, SVal.bd, bdL, bdCs, Chunk.bd, evFn, evCode, evItems, evQ, evOp, Opd.ev, evL, getE, put, kill, dead, binV, kEq, Nat.beq, Nat.ble, Nat.blt, and, or, not, cond_true, cond_false, Heap.push, Heap.find, Heap.set, Heap.drop, findE, SVal.chunks, rdC, rdA, wrC, wrA, takeN, dropN, lenCs, Chunk.len, isB, isCell, cellCs, Res.ev, RV.ev, getL, argEnv, withC, findC, callS, denil, nilV, nilE, extL, extV, extCs, winC, rangeC, disjOk, clash, heapOf, putAll, putC, wrWin, newEnts, kap, getP, SVal.ren, SAddr.ren, renCs, renL, Chunk.ren, plainCs, plainV, AOp.looks, srcI, optE, bndE, slo, evInts, evBuild, zerosL, List.length_cons, List.length_nil, List.cons_append, List.nil_append, List.append_nil, Nat.reduceAdd, Nat.reduceSub, Nat.add_zero, Nat.zero_add, Bool.and_true, Bool.true_and, Bool.and_false, Bool.false_and, Bool.or_false, Bool.not_false, Bool.not_true, memN, Option.getD, List.set]
  simp only [e1]
  refine ⟨decide (0 <= a /\ 0 <= n), fun h => ⟨⟨trivial, trivial⟩, ?_⟩, fun h => ?_, decide (0 <= a /\ 0 <= n /\ n <= 64), fun h => ⟨⟨trivial, trivial⟩, ?_⟩, fun h => ?_, decide (0 <= a /\ 0 <= n /\ n <= 64 /\ n <= 8 * m), fun h => ⟨⟨trivial, trivial⟩, ?_⟩, fun h => ?_, decide (There m a n), fun h => ⟨⟨trivial, trivial⟩, ?_⟩, fun h => ?_, ?_⟩
  · have := of_decide_eq_true h; rw [decide_eq_decide]; omega
  · have := of_decide_eq_false h; symm; rw [decide_eq_false_iff_not]; omega
  · have := of_decide_eq_true h; rw [decide_eq_decide]; omega
  · have := of_decide_eq_false h; symm; rw [decide_eq_false_iff_not]; omega
  · have := of_decide_eq_true h; rw [decide_eq_decide]; omega
  · have := of_decide_eq_false h; symm; rw [decide_eq_false_iff_not]; omega
  · have := of_decide_eq_true h; rw [decide_eq_decide, e2 (by omega) (by omega)]; unfold There; omega
  · have := of_decide_eq_false h; symm; rw [decide_eq_false_iff_not]; unfold There; omega
  · refine ret_tau [] rfl hK ?_ ?_ ?_ ?_ ?_
    all_goals (first | rfl | trivial | (dsimp only [heapSub, injSub, envSub, bdCs, bdL, Chunk.bd, SVal.bd, tau, tauE, whole, SVal.ren, SAddr.ren, renCs, renL, Chunk.ren, Heap.find, findE, getE, Nat.beq, cond_true, cond_false, Heap.push, Heap.drop, Heap.set, nilE, nilV, List.map]; (repeat' apply And.intro) <;> first | rfl | trivial | decide | omega))
def cons151 : Con := ⟨66, S151, [], [.ints .u8 0 []], []⟩
def S46 : Sx.Spec := fun args H K => ∃ w m c xs a n, args = [.slice ⟨0,0,0,1⟩ m c, .int .i64 a, .int .i64 n] /\ H = ⟨1,[(0,some ⟨w,[.ints .u8 m xs],0⟩)]⟩ /\ m <= 1000000 /\ I64 a /\ I64 n /\ xs.length = m /\ Byt xs /\
  (There m a n -> K (.tuple [.int .u64 (getB xs a.toNat n.toNat), .int .i64 0]) ⟨1,[(0,some ⟨w,[.ints .u8 m xs],0⟩)]⟩) /\
  (¬ There m a n -> K (.tuple [.int .u64 0, .int .i64 2]) ⟨1,[(0,some ⟨w,[.ints .u8 m xs],0⟩)]⟩)
theorem s46 : Sound Try.prog 52 S46 := by
  have hΓ : CallOk Try.prog (withC [cons151]) := withC_ok ⟨s151, trivial⟩
  refine fn_sound hΓ c46_fits ?_
  rintro _ _ K ⟨w, m, c, xs, a, n, rfl, rfl, hm, ha, hn, hl, hb, hK, hK'⟩
  refine ⟨rfl, fun w0 fp ρi => ?_⟩
  dsimp only [c46, cons151, keeps, SVal.bd, bdL, bdCs, Chunk.bd, keeps, SVal.bd, bdL, bdCs, Chunk.bd, evFn, evCode, evItems, evQ, evOp, Opd.ev, evL, getE, put, kill, dead, binV, kEq, Nat.beq, Nat.ble, Nat.blt, and, or, not, cond_true, cond_false, Heap.push, Heap.find, Heap.set, Heap.drop, findE, SVal.chunks, rdC, rdA, wrC, wrA, takeN, dropN, lenCs, Chunk.len, isB, isCell, cellCs, Res.ev, RV.ev, getL, argEnv, withC, findC, callS, denil, nilV, nilE, extL, extV, extCs, winC, rangeC, disjOk, clash, heapOf, putAll, putC, wrWin, newEnts, kap, getP, SVal.ren, SAddr.ren, renCs, renL, Chunk.ren, plainCs, plainV, AOp.looks, srcI, optE, bndE, slo, evInts, evBuild, zerosL, List.length_cons, List.length_nil, List.cons_append, List.nil_append, List.append_nil, Nat.reduceAdd, Nat.reduceSub, Nat.add_zero, Nat.zero_add, Bool.and_true, Bool.true_and, Bool.and_false, Bool.false_and, Bool.or_false, Bool.not_false, Bool.not_true, memN, Option.getD, List.set]
  refine ⟨by omega, _, _, _, _, _, _, rfl, rfl, hm, ha, hn, ?_⟩
  dsimp only [keeps, SVal.bd, bdL, bdCs, Chunk.bd, keeps, SVal.bd, bdL, bdCs, Chunk.bd, evFn, evCode, evItems, evQ, evOp, Opd.ev, evL, getE, put, kill, dead, binV, kEq, Nat.beq, Nat.ble, Nat.blt, and, or, not, cond_true, cond_false, Heap.push, Heap.find, Heap.set, Heap.drop, findE, SVal.chunks, rdC, rdA, wrC, wrA, takeN, dropN, lenCs, Chunk.len, isB, isCell, cellCs, Res.ev, RV.ev, getL, argEnv, withC, findC, callS, denil, nilV, nilE, extL, extV, extCs, winC, rangeC, disjOk, clash, heapOf, putAll, putC, wrWin, newEnts, kap, getP, SVal.ren, SAddr.ren, renCs, renL, Chunk.ren, plainCs, plainV, AOp.looks, srcI, optE, bndE, slo, evInts, evBuild, zerosL, List.length_cons, List.length_nil, List.cons_append, List.nil_append, List.append_nil, Nat.reduceAdd, Nat.reduceSub, Nat.add_zero, Nat.zero_add, Bool.and_true, Bool.true_and, Bool.and_false, Bool.false_and, Bool.or_false, Bool.not_false, Bool.not_true, memN, Option.getD, List.set]
  refine ⟨fun h => ?_, fun h => ?_⟩
  · have hno : ¬ There m a n := by intro ht; rw [decide_eq_true ht] at h; cases h
    refine ret_tau [] rfl (hK' hno) ?_ ?_ ?_ ?_ ?_
    all_goals (first | rfl | trivial | (dsimp only [heapSub, injSub, envSub, bdCs, bdL, Chunk.bd, SVal.bd, tau, tauE, whole, SVal.ren, SAddr.ren, renCs, renL, Chunk.ren, Heap.find, findE, getE, Nat.beq, cond_true, cond_false, Heap.push, Heap.drop, Heap.set, nilE, nilV, List.map]; (repeat' apply And.intro) <;> first | rfl | trivial | decide | omega))
  · have ht : There m a n := by by_cases ht : There m a n
                                · exact ht
                                · rw [decide_eq_false ht] at h; cases h
    have hK := hK ht
    clear hK' h
    unfold There at ht
    obtain ⟨a, rfl⟩ := Int.eq_ofNat_of_zero_le ht.1
    obtain ⟨n, rfl⟩ := Int.eq_ofNat_of_zero_le ht.2.1
    simp only [Int.toNat_natCast] at hK
    refine loop_rule hΓ (fun _ _ _ _ h => h) (S := {i : Nat // i <= n})
      (fun i => ([(0, some (.slice ⟨0,0,0,1⟩ m c)), (1, some (.int .i64 a)), (15, some (.int .i64 n)), (6, some (.int .u64 (getB xs a i.1))), (16, some (.int .i64 i.1))], ⟨1,[(0,some ⟨w,[.ints .u8 m xs],0⟩)]⟩)) (fun i => n - i.1) ?_ ?_
    · refine ⟨⟨0, Nat.zero_le _⟩, tau [], ?_⟩
      simp only [getB]
      refine sub_tau [] rfl ?_ ?_ ?_ ?_
      all_goals (first | rfl | trivial | (dsimp only [heapSub, injSub, envSub, bdCs, bdL, Chunk.bd, SVal.bd, tau, tauE, whole, SVal.ren, SAddr.ren, renCs, renL, Chunk.ren, Heap.find, findE, getE, Nat.beq, cond_true, cond_false, Heap.push, Heap.drop, Heap.set, nilE, nilV, List.map]; (repeat' apply And.intro) <;> first | rfl | trivial | decide | omega))
    · rintro ⟨i, hi⟩
      dsimp only
      dsimp only [c46_l0, keeps, SVal.bd, bdL, bdCs, Chunk.bd, keeps, SVal.bd, bdL, bdCs, Chunk.bd, evFn, evCode, evItems, evQ, evOp, Opd.ev, evL, getE, put, kill, dead, binV, kEq, Nat.beq, Nat.ble, Nat.blt, and, or, not, cond_true, cond_false, Heap.push, Heap.find, Heap.set, Heap.drop, findE, SVal.chunks, rdC, rdA, wrC, wrA, takeN, dropN, lenCs, Chunk.len, isB, isCell, cellCs, Res.ev, RV.ev, getL, argEnv, withC, findC, callS, denil, nilV, nilE, extL, extV, extCs, winC, rangeC, disjOk, clash, heapOf, putAll, putC, wrWin, newEnts, kap, getP, SVal.ren, SAddr.ren, renCs, renL, Chunk.ren, plainCs, plainV, AOp.looks, srcI, optE, bndE, slo, evInts, evBuild, zerosL, List.length_cons, List.length_nil, List.cons_append, List.nil_append, List.append_nil, Nat.reduceAdd, Nat.reduceSub, Nat.add_zero, Nat.zero_add, Bool.and_true, Bool.true_and, Bool.and_false, Bool.false_and, Bool.or_false, Bool.not_false, Bool.not_true, memN, Option.getD, List.set]
      refine ⟨fun h => ?_, fun h => ?_⟩
      · have hlt : (i : Int) < n := of_decide_eq_true h
        have e1 : IntKind.i64.wrap ((a : Int) + i) = ((a + i : Nat) : Int) := wrap_i64 (by omega) (by omega)
        have e2 : ishr .i64 ((a + i : Nat) : Int) 3 = (((a + i) / 8 : Nat) : Int) := by
          rw [ishr_eq _ _ _ (by decide)]
          show ((a + i : Nat) : Int) / 8 = _
          omega
        have e3 : iand .i64 ((a + i : Nat) : Int) 7 = (((a + i) % 8 : Nat) : Int) := iand_i64_7 _ (by omega)
        have hx := hb.getD ((a + i) / 8)
        have e4 : ishr .u8 (xs.getD ((a + i) / 8) 0) (((a + i) % 8 : Nat) : Int) = xs.getD ((a + i) / 8) 0 / 2 ^ ((a + i) % 8) := by
          rw [ishr_eq _ _ _ (by simp only [Int.toNat_natCast]; show (a + i) % 8 <= 8; omega), Int.toNat_natCast]
        have e5 : iand .u8 (xs.getD ((a + i) / 8) 0 / 2 ^ ((a + i) % 8)) 1 = bitB xs (a + i) := by
          obtain ⟨x, hx'⟩ := Int.eq_ofNat_of_zero_le hx.1
          have hp : xs.getD ((a + i) / 8) 0 / 2 ^ ((a + i) % 8) = ((x / 2 ^ ((a + i) % 8) : Nat) : Int) := by rw [hx']; simp
          have hle : x / 2 ^ ((a + i) % 8) <= x := Nat.div_le_self _ _
          unfold bitB bit8
          rw [hp, iand_u8_1 _ (by omega)]
          omega
        have hbit := bitB_01 xs (a + i)
        have e6 : IntKind.u64.wrap (bitB xs (a + i)) = bitB xs (a + i) := by rw [wrap_u64]; omega
        have hg := getB_lt xs a i
        have hp2 : (2 : Int) ^ (i + 1) <= 2 ^ 64 := ipow_le 2 rfl (by omega) (by omega)
        rw [Int.pow_succ] at hp2
        have hp0 : (0 : Int) < 2 ^ i := Int.pow_pos (by omega)
        have hbs : 0 <= bitB xs (a + i) * 2 ^ i /\ bitB xs (a + i) * 2 ^ i <= 2 ^ i := by
          rcases (show bitB xs (a + i) = 0 ∨ bitB xs (a + i) = 1 by omega) with h | h <;> rw [h] <;> omega
        have e7 : ishl .u64 (bitB xs (a + i)) (i : Int) = bitB xs (a + i) * 2 ^ i := by
          rw [ishl_u64 (by simp only [Int.toNat_natCast]; omega), Int.toNat_natCast]
          omega
        have e8 : ior .u64 (getB xs a i) (bitB xs (a + i) * 2 ^ i) = getB xs a (i + 1) :=
          ior_disj hg.1 hg.2 hbit.1 rfl (by omega)
        have e9 : IntKind.i64.wrap (↑i + 1) = ((i + 1 : Nat) : Int) := wrap_i64 (by omega) (by omega)
        simp only [e1, e2, e3, Int.toNat_natCast, Nat.zero_add, e4, e5, e6, e7, e8, e9]
        refine ⟨by omega, by omega, by omega, by omega, by omega, by omega, ⟨i + 1, by omega⟩, tau [], by dsimp only; omega, ?_⟩
        refine sub_tau [] rfl ?_ ?_ ?_ ?_
        all_goals (first | rfl | trivial | (dsimp only [heapSub, injSub, envSub, bdCs, bdL, Chunk.bd, SVal.bd, tau, tauE, whole, SVal.ren, SAddr.ren, renCs, renL, Chunk.ren, Heap.find, findE, getE, Nat.beq, cond_true, cond_false, Heap.push, Heap.drop, Heap.set, nilE, nilV, List.map]; (repeat' apply And.intro) <;> first | rfl | trivial | decide | omega))
      · have hge : ¬ (i : Int) < n := of_decide_eq_false h
        have hin : i = n := by omega
        subst hin
        refine ret_tau [] rfl hK ?_ ?_ ?_ ?_ ?_
        all_goals (first | rfl | trivial | (dsimp only [heapSub, injSub, envSub, bdCs, bdL, Chunk.bd, SVal.bd, tau, tauE, whole, SVal.ren, SAddr.ren, renCs, renL, Chunk.ren, Heap.find, findE, getE, Nat.beq, cond_true, cond_false, Heap.push, Heap.drop, Heap.set, nilE, nilV, List.map]; (repeat' apply And.intro) <;> first | rfl | trivial | decide | omega))
end Go.Proofs.Ytggpebgigddogaa
