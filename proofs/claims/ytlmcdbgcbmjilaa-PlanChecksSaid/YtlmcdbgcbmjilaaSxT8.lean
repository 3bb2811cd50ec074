/- Part of the proof: SxT8. -/
import Derived.Test.YtlmcdbgcbmjilaaSxT7
namespace Go.Proofs.Ytlmcdbgcbmjilaa
open Go.Sx
theorem numB_take (v : Int) (j : Nat) : ∀ k, (numB v k).take j = numB v (min j k)
  | 0 => by simp [numB]
  | k + 1 => by
    rw [numB, List.take_append, numB_take v j k, numB_length]
    rcases Nat.lt_or_ge k j with h | h
    · rw [Nat.min_eq_right (by omega), Nat.min_eq_right (by omega), List.take_of_length_le (by simp; omega)]; rfl
    · rw [Nat.min_eq_left h, Nat.min_eq_left (by omega), show j - k = 0 by omega]; simp
theorem numB_nat (v : Nat) : ∀ k, readB (numB v k) = ((v % 256 ^ k : Nat) : Int)
  | 0 => by simp [numB, readB, Nat.mod_one]
  | k + 1 => by
    rw [numB, readB_snoc, numB_nat v k, numB_length, Nat.pow_succ, Nat.mod_mul, Int.natCast_add, Int.natCast_mul, Int.mul_comm]
    simp
theorem numB_byt (v : Int) : ∀ k, Byt (numB v k)
  | 0 => by simp [numB, Byt]
  | k + 1 => fun x hx => by
    rw [numB] at hx
    rcases List.mem_append.1 hx with h | h
    · exact numB_byt v k x h
    · simp at h; omega
/-- What a law says of one row of bytes, and two numbers. -/
def SLaw3 : Sx.Spec := fun args H K => ∃ m c xs v n, args = [.slice ⟨0,0,0,1⟩ m c, .int .u64 v, .int .i64 n] ∧ H = ⟨1,[(0,some ⟨false,[.ints .u8 m xs],0⟩)]⟩ ∧ xs.length = m ∧ m ≤ c ∧ Byt xs ∧ 0 ≤ v ∧ v < 2^64 ∧ I64 n ∧
  K (.bool true) ⟨1,[(0,some ⟨false,[.ints .u8 m xs],0⟩)]⟩
theorem s4 : Sound Try.prog 4 SLaw3 := by
  have hΓ : CallOk Try.prog (withC [cons40, cons41, cons42, cons44]) := withC_ok ⟨s40, s41, s42, s44, trivial⟩
  refine fn_sound hΓ c4_fits ?_
  rintro _ _ K ⟨m, c, xs, v, n, rfl, rfl, hl, hmc, hb, hv, hv', hn, hK⟩
  refine ⟨rfl, fun w0 fp ρi => ?_⟩
  dsimp only [c4, cons40, cons41, cons42, cons44, keeps, SVal.bd, bdL, bdCs, Chunk.bd, keeps, SVal.bd, bdL, bdCs, Chunk.bd, evFn, evCode, evItems, evQ, evOp, Opd.ev, evL, getE, put, kill, dead, binV, kEq, Nat.beq, Nat.ble, Nat.blt, and, or, not, cond_true, cond_false, Heap.push, Heap.find, Heap.set, Heap.drop, findE, SVal.chunks, rdC, rdA, wrC, wrA, takeN, dropN, lenCs, Chunk.len, isB, isCell, cellCs, Res.ev, RV.ev, getL, argEnv, withC, findC, callS, denil, nilV, nilE, extL, extV, extCs, winC, rangeC, disjOk, clash, heapOf, putAll, putC, wrWin, newEnts, kap, getP, SVal.ren, SAddr.ren, renCs, renL, Chunk.ren, plainCs, plainV, AOp.looks, srcI, optE, bndE, slo, evInts, evBuild, zerosL, List.length_cons, List.length_nil, List.cons_append, List.nil_append, List.append_nil, Nat.reduceAdd, Nat.reduceSub, Nat.add_zero, Nat.zero_add, Bool.and_true, Bool.true_and, Bool.and_false, Bool.false_and, Bool.or_false, Bool.not_false, Bool.not_true, memN, Option.getD, List.set]
  refine ⟨rfl, rfl, ?_⟩
  dsimp only [keeps, SVal.bd, bdL, bdCs, Chunk.bd, keeps, SVal.bd, bdL, bdCs, Chunk.bd, evFn, evCode, evItems, evQ, evOp, Opd.ev, evL, getE, put, kill, dead, binV, kEq, Nat.beq, Nat.ble, Nat.blt, and, or, not, cond_true, cond_false, Heap.push, Heap.find, Heap.set, Heap.drop, findE, SVal.chunks, rdC, rdA, wrC, wrA, takeN, dropN, lenCs, Chunk.len, isB, isCell, cellCs, Res.ev, RV.ev, getL, argEnv, withC, findC, callS, denil, nilV, nilE, extL, extV, extCs, winC, rangeC, disjOk, clash, heapOf, putAll, putC, wrWin, newEnts, kap, getP, SVal.ren, SAddr.ren, renCs, renL, Chunk.ren, plainCs, plainV, AOp.looks, srcI, optE, bndE, slo, evInts, evBuild, zerosL, List.length_cons, List.length_nil, List.cons_append, List.nil_append, List.append_nil, Nat.reduceAdd, Nat.reduceSub, Nat.add_zero, Nat.zero_add, Bool.and_true, Bool.true_and, Bool.and_false, Bool.false_and, Bool.or_false, Bool.not_false, Bool.not_true, memN, Option.getD, List.set]
  refine ⟨fun h => (by cases h), fun _ => ⟨fun h => ?_, fun h => ?_⟩⟩
  · refine ret_tau [] rfl hK ?_ ?_ ?_ ?_ ?_
    all_goals (first | rfl | trivial | (dsimp only [heapSub, injSub, envSub, bdCs, bdL, Chunk.bd, SVal.bd, tau, tauE, whole, SVal.ren, SAddr.ren, renCs, renL, Chunk.ren, Heap.find, findE, getE, Nat.beq, cond_true, cond_false, Heap.push, Heap.drop, Heap.set, nilE, nilV, List.map]; (repeat' apply And.intro) <;> first | rfl | trivial | decide | omega))
  have hm2 : ¬ (2000 : Int) < m := of_decide_eq_false h
  unfold I64 at hn
  refine ⟨by omega, _, _, _, _, _, _, rfl, rfl, by simp [hl], by omega, hv, hv', fun c' hc => ?_⟩
  simp only [List.drop_zero, List.take_of_length_le (Nat.le_of_eq hl)]
  generalize hk : (min n 64).toNat = k at *
  have ek : (if (if (64 : Int) < n then 64 else n) < 0 then 0 else if (64 : Int) < n then 64 else n) = (k : Int) := by omega
  have hk64 : k ≤ 64 := by omega
  dsimp only [keeps, SVal.bd, bdL, bdCs, Chunk.bd, keeps, SVal.bd, bdL, bdCs, Chunk.bd, evFn, evCode, evItems, evQ, evOp, Opd.ev, evL, getE, put, kill, dead, binV, kEq, Nat.beq, Nat.ble, Nat.blt, and, or, not, cond_true, cond_false, Heap.push, Heap.find, Heap.set, Heap.drop, findE, SVal.chunks, rdC, rdA, wrC, wrA, takeN, dropN, lenCs, Chunk.len, isB, isCell, cellCs, Res.ev, RV.ev, getL, argEnv, withC, findC, callS, denil, nilV, nilE, extL, extV, extCs, winC, rangeC, disjOk, clash, heapOf, putAll, putC, wrWin, newEnts, kap, getP, SVal.ren, SAddr.ren, renCs, renL, Chunk.ren, plainCs, plainV, AOp.looks, srcI, optE, bndE, slo, evInts, evBuild, zerosL, List.length_cons, List.length_nil, List.cons_append, List.nil_append, List.append_nil, Nat.reduceAdd, Nat.reduceSub, Nat.add_zero, Nat.zero_add, Bool.and_true, Bool.true_and, Bool.and_false, Bool.false_and, Bool.or_false, Bool.not_false, Bool.not_true, memN, Option.getD, List.set]
  simp only [ek]
  have e1 : IntKind.i64.wrap ((m : Int) + k) = ((m + k : Nat) : Int) := wrap_i64 (by omega) (by omega)
  simp only [e1, Int.toNat_natCast, Nat.sub_zero]
  have e2 : List.take m (xs ++ numB v k) = xs := by rw [List.take_left' hl]
  have e3 : List.take k (List.drop m (xs ++ numB v k)) = numB v k := by rw [List.drop_left' hl, List.take_of_length_le (by rw [numB_length]; omega)]
  simp only [List.drop_zero, e2, List.take_of_length_le (Nat.le_of_eq hl)]
  refine ⟨false, fun _ => ⟨by omega, by omega, by omega, by omega, _, _, _, _, _, _, _, _, rfl, rfl, hl, hl, by omega, by omega, ?_⟩, ?_⟩
  · rw [decide_eq_true rfl]
    dsimp only [keeps, SVal.bd, bdL, bdCs, Chunk.bd, keeps, SVal.bd, bdL, bdCs, Chunk.bd, evFn, evCode, evItems, evQ, evOp, Opd.ev, evL, getE, put, kill, dead, binV, kEq, Nat.beq, Nat.ble, Nat.blt, and, or, not, cond_true, cond_false, Heap.push, Heap.find, Heap.set, Heap.drop, findE, SVal.chunks, rdC, rdA, wrC, wrA, takeN, dropN, lenCs, Chunk.len, isB, isCell, cellCs, Res.ev, RV.ev, getL, argEnv, withC, findC, callS, denil, nilV, nilE, extL, extV, extCs, winC, rangeC, disjOk, clash, heapOf, putAll, putC, wrWin, newEnts, kap, getP, SVal.ren, SAddr.ren, renCs, renL, Chunk.ren, plainCs, plainV, AOp.looks, srcI, optE, bndE, slo, evInts, evBuild, zerosL, List.length_cons, List.length_nil, List.cons_append, List.nil_append, List.append_nil, Nat.reduceAdd, Nat.reduceSub, Nat.add_zero, Nat.zero_add, Bool.and_true, Bool.true_and, Bool.and_false, Bool.false_and, Bool.or_false, Bool.not_false, Bool.not_true, memN, Option.getD, List.set]
    exact ⟨⟨rfl, rfl, trivial⟩, rfl⟩
  · refine ⟨fun h => (by simp at h), fun h => (by cases h), fun _ => ?_⟩
    have e4 : m + k - m = k := by omega
    have e5 : List.take k (List.drop (0 + if c' = m then 0 else m) (xs ++ numB v k)) = numB v k := by
      split
      · have hk0 : k = 0 := by omega
        rw [hk0]; rfl
      · rw [Nat.zero_add, e3]
    simp only [e4, e5]
    have e10 : (if c' = m then 0 else m) ≤ m := by split <;> omega
    have hread : readB ((numB v k).take 8) = if k < 8 then v % 256 ^ k else v := by
      obtain ⟨x, rfl⟩ := Int.eq_ofNat_of_zero_le hv
      rw [numB_take, numB_nat]
      split
      · rw [Nat.min_eq_right (by omega)]; simp
      · rw [Nat.min_eq_left (by omega), Nat.mod_eq_of_lt (by omega)]
    have hret : Ret 1 K (SVal.bool true) { next := 2, ents := [(1, some { wr := true, cs := [Chunk.ints IntKind.u8 (m + k) (xs ++ numB v k)], ex := c' - (m + k) }), (0, some { wr := false, cs := [Chunk.ints IntKind.u8 m xs], ex := 0 })] } := by
      refine ret_tau [] rfl hK ?_ ?_ ?_ ?_ ?_
      all_goals (first | rfl | trivial | (dsimp only [heapSub, injSub, envSub, bdCs, bdL, Chunk.bd, SVal.bd, tau, tauE, whole, SVal.ren, SAddr.ren, renCs, renL, Chunk.ren, Heap.find, findE, getE, Nat.beq, cond_true, cond_false, Heap.push, Heap.drop, Heap.set, nilE, nilV, List.map]; (repeat' apply And.intro) <;> first | rfl | trivial | decide | omega))
    refine ⟨fun h8 => ?_, fun h8 => ?_⟩
    · have h8 : (k : Int) < 8 := of_decide_eq_true h8
      have e6 : IntKind.i64.wrap (8 * (k : Int)) = ((8 * k : Nat) : Int) := wrap_i64 (by omega) (by omega)
      have hp : (2 : Int) ^ (8 * k) ≤ 2 ^ 56 := ipow_le 2 rfl (by omega) (by omega)
      have hp0 : (0 : Int) < 2 ^ (8 * k) := Int.pow_pos (by omega)
      have e7 : ishl .u64 1 ((8 * k : Nat) : Int) = 2 ^ (8 * k) := by
        rw [ishl_u64 (by simp only [Int.toNat_natCast]; omega), Int.toNat_natCast, Int.one_mul]; omega
      have e8 : IntKind.u64.wrap (2 ^ (8 * k) - 1 : Int) = ((2 ^ (8 * k) - 1 : Nat) : Int) := by
        have hnp : ((2 ^ (8 * k) : Nat) : Int) = 2 ^ (8 * k) := by rw [Int.natCast_pow]; rfl
        have : 0 < 2 ^ (8 * k) := Nat.pow_pos (by omega)
        rw [wrap_u64]; omega
      have e9 : iand .u64 v ((2 ^ (8 * k) - 1 : Nat) : Int) = v % 256 ^ k := by
        obtain ⟨x, rfl⟩ := Int.eq_ofNat_of_zero_le hv
        rw [iand_u64 x (8 * k) (by omega) (by omega), Nat.pow_mul]; simp
      simp only [e6, e7, e8, e9]
      refine ⟨by omega, by omega, by omega, by omega, _, _, _, _, rfl, rfl, numB_length _ _, by omega, by omega, numB_byt _ _, ?_⟩
      dsimp only [keeps, SVal.bd, bdL, bdCs, Chunk.bd, keeps, SVal.bd, bdL, bdCs, Chunk.bd, evFn, evCode, evItems, evQ, evOp, Opd.ev, evL, getE, put, kill, dead, binV, kEq, Nat.beq, Nat.ble, Nat.blt, and, or, not, cond_true, cond_false, Heap.push, Heap.find, Heap.set, Heap.drop, findE, SVal.chunks, rdC, rdA, wrC, wrA, takeN, dropN, lenCs, Chunk.len, isB, isCell, cellCs, Res.ev, RV.ev, getL, argEnv, withC, findC, callS, denil, nilV, nilE, extL, extV, extCs, winC, rangeC, disjOk, clash, heapOf, putAll, putC, wrWin, newEnts, kap, getP, SVal.ren, SAddr.ren, renCs, renL, Chunk.ren, plainCs, plainV, AOp.looks, srcI, optE, bndE, slo, evInts, evBuild, zerosL, List.length_cons, List.length_nil, List.cons_append, List.nil_append, List.append_nil, Nat.reduceAdd, Nat.reduceSub, Nat.add_zero, Nat.zero_add, Bool.and_true, Bool.true_and, Bool.and_false, Bool.false_and, Bool.or_false, Bool.not_false, Bool.not_true, memN, Option.getD, List.set]
      have : (readB (List.take 8 (numB v k)) == v % 256 ^ k) = true := by rw [hread, if_pos (by omega)]; exact beq_self_eq_true _
      rw [this]
      exact hret
    · have h8 : ¬ (k : Int) < 8 := of_decide_eq_false h8
      refine ⟨by omega, by omega, by omega, _, _, _, _, rfl, rfl, numB_length _ _, by omega, by omega, numB_byt _ _, ?_⟩
      dsimp only [keeps, SVal.bd, bdL, bdCs, Chunk.bd, keeps, SVal.bd, bdL, bdCs, Chunk.bd, evFn, evCode, evItems, evQ, evOp, Opd.ev, evL, getE, put, kill, dead, binV, kEq, Nat.beq, Nat.ble, Nat.blt, and, or, not, cond_true, cond_false, Heap.push, Heap.find, Heap.set, Heap.drop, findE, SVal.chunks, rdC, rdA, wrC, wrA, takeN, dropN, lenCs, Chunk.len, isB, isCell, cellCs, Res.ev, RV.ev, getL, argEnv, withC, findC, callS, denil, nilV, nilE, extL, extV, extCs, winC, rangeC, disjOk, clash, heapOf, putAll, putC, wrWin, newEnts, kap, getP, SVal.ren, SAddr.ren, renCs, renL, Chunk.ren, plainCs, plainV, AOp.looks, srcI, optE, bndE, slo, evInts, evBuild, zerosL, List.length_cons, List.length_nil, List.cons_append, List.nil_append, List.append_nil, Nat.reduceAdd, Nat.reduceSub, Nat.add_zero, Nat.zero_add, Bool.and_true, Bool.true_and, Bool.and_false, Bool.false_and, Bool.or_false, Bool.not_false, Bool.not_true, memN, Option.getD, List.set]
      have : (readB (List.take 8 (numB v k)) == v) = true := by rw [hread, if_neg (by omega)]; exact beq_self_eq_true _
      rw [this]
      exact hret
end Go.Proofs.Ytlmcdbgcbmjilaa
