/- Part of the proof: SxT5. -/
import Derived.Test.YtefmjmghkedciaaSxT4
import Derived.Test.YtefmjmghkedciaaSxBit
set_option linter.unusedVariables false
set_option linter.unusedSimpArgs false
namespace Go.Proofs.Ytefmjmghkedciaa
open Go.Sx
def There (m : Nat) (at_ n : Int) : Prop := 0 ≤ at_ ∧ 0 ≤ n ∧ n ≤ 64 ∧ n ≤ 8 * m ∧ at_ ≤ 8 * m - n
instance (m at_ n) : Decidable (There m at_ n) := by unfold There; exact inferInstance
def S151 : Sx.Spec := fun args H K => ∃ w m c xs a n, args = [.slice ⟨0,0,0,1⟩ m c, .int .i64 a, .int .i64 n] ∧ H = ⟨1,[(0,some ⟨w,[.ints .u8 m xs],0⟩)]⟩ ∧ m ≤ 1000000 ∧ I64 a ∧ I64 n ∧
  K (.bool (decide (There m a n))) ⟨1,[(0,some ⟨w,[.ints .u8 m xs],0⟩)]⟩
theorem s151 : Sound Try.prog 62 S151 := by
  have hΓ : CallOk Try.prog (withC []) := withC_ok trivial
  refine fn_sound hΓ c151_fits ?_
  rintro _ _ K ⟨w, m, c, xs, a, n, rfl, rfl, hm, ha, hn, hK⟩
  refine ⟨rfl, fun w0 fp ρi => ?_⟩
  have e1 : IntKind.i64.wrap (8 * (m : Int)) = 8 * m := wrap_i64 (by omega) (by omega)
  have e2 : 0 ≤ n → n ≤ 64 → IntKind.i64.wrap (8 * (m : Int) - n) = 8 * m - n := fun h1 h2 => wrap_i64 (by omega) (by omega)
  dsimp only [c151, keeps, SVal.bd, bdL, bdCs, Chunk.bd, keeps, SVal.bd, bdL, bdCs, Chunk.bd, evFn, evCode, evItems, evQ, evOp, Opd.ev, evL, getE, put, kill, dead, binV, kEq, Nat.beq, Nat.ble, Nat.blt, and, or, not, cond_true, cond_false, Heap.push, Heap.find, Heap.set, Heap.drop, findE, SVal.chunks, rdC, rdA, wrC, wrA, takeN, dropN, lenCs, Chunk.len, isB, isCell, cellCs, Res.ev, RV.ev, getL, argEnv, withC, findC, callS, denil, nilV, nilE, extL, extV, extCs, winC, rangeC, disjOk, clash, heapOf, putAll, putC, wrWin, newEnts, kap, getP, SVal.ren, SAddr.ren, renCs, renL, Chunk.ren, plainCs, plainV, AOp.looks, srcI, optE, bndE, slo, evInts, evBuild, zerosL, List.length_cons, List.length_nil, List.cons_append, List.nil_append, List.append_nil, Nat.reduceAdd, Nat.reduceSub, Nat.add_zero, Nat.zero_add, Bool.and_true, Bool.true_and, Bool.and_false, Bool.false_and, Bool.or_false, Bool.not_false, Bool.not_true, memN, Option.getD, List.set]
  simp only [e1]
  refine ⟨decide (0 ≤ a ∧ 0 ≤ n), fun h => ⟨⟨trivial, trivial⟩, ?_⟩, fun h => ?_, decide (0 ≤ a ∧ 0 ≤ n ∧ n ≤ 64), fun h => ⟨⟨trivial, trivial⟩, ?_⟩, fun h => ?_, decide (0 ≤ a ∧ 0 ≤ n ∧ n ≤ 64 ∧ n ≤ 8 * m), fun h => ⟨⟨trivial, trivial⟩, ?_⟩, fun h => ?_, decide (There m a n), fun h => ⟨⟨trivial, trivial⟩, ?_⟩, fun h => ?_, ?_⟩
  · have := of_decide_eq_true h; rw [decide_eq_decide]; omega
  · have := of_decide_eq_false h; symm; rw [decide_eq_false_iff_not]; omega
  · have := of_decide_eq_true h; rw [decide_eq_decide]; omega
  · have := of_decide_eq_false h; symm; rw [decide_eq_false_iff_not]; omega
  · have := of_decide_eq_true h; rw [decide_eq_decide]; omega
  · have := of_decide_eq_false h; symm; rw [decide_eq_false_iff_not]; omega
  · have := of_decide_eq_true h; rw [decide_eq_decide, e2 (by omega) (by omega)]; unfold There; omega
  · have := of_decide_eq_false h; symm; rw [decide_eq_false_iff_not]; unfold There; omega
  · refine ret_tau [] rfl hK ?_ ?_ ?_ ?_ ?_
    all_goals (first | rfl | trivial | (dsimp only [heapSub, injSub, envSub, bdCs, bdL, Chunk.bd, SVal.bd, tau, tauE, whole, SVal.ren, SAddr.ren, renCs, renL, Chunk.ren, Heap.find, findE, getE, Nat.beq, cond_true, cond_false, Heap.push, Heap.drop, Heap.set, nilE, nilV, List.map]; (repeat' apply And.intro) <;> first | rfl | trivial | decide | omega))
def cons151 : Con := ⟨62, S151, [], [.ints .u8 0 []], []⟩
/-- The number that bits are. -/
def S46 : Sx.Spec := fun args H K => ∃ w m c xs a n, args = [.slice ⟨0,0,0,1⟩ m c, .int .i64 a, .int .i64 n] ∧ H = ⟨1,[(0,some ⟨w,[.ints .u8 m xs],0⟩)]⟩ ∧ m ≤ 1000000 ∧ I64 a ∧ I64 n ∧ xs.length = m ∧ Byt xs ∧
  (There m a n → K (.tuple [.int .u64 (getB xs a.toNat n.toNat), .int .i64 0]) ⟨1,[(0,some ⟨w,[.ints .u8 m xs],0⟩)]⟩) ∧
  (¬ There m a n → K (.tuple [.int .u64 0, .int .i64 2]) ⟨1,[(0,some ⟨w,[.ints .u8 m xs],0⟩)]⟩)
end Go.Proofs.Ytefmjmghkedciaa
