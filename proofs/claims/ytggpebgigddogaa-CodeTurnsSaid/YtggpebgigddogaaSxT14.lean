/- Part of the proof: SxT14. -/
import Derived.Test.YtggpebgigddogaaSxT13
namespace Go.Proofs.Ytggpebgigddogaa
open Go.Sx
def cons156 : Con := ⟨76, S156, [], [], []⟩
/-- How many levels a plan's tree has. -/
def S51 : Sx.Spec := fun args H K => match args with
  | [a] => planArg a fun p => noH H (K (.int .i64 (p.levels : Int)) ⟨0, []⟩)
  | _ => False
theorem s51 : Sound Try.prog 75 S51 := by
  have hΓ : CallOk Try.prog (withC [cons156]) := withC_ok ⟨s156, trivial⟩
  refine fn_sound hΓ c51_fits ?_
  intro args H K h
  unfold S51 at h
  split at h
  · obtain ⟨cores, banks, pages, lines, arity, minor, major, ns, nw, fs, fw, met, queue, kind, key, tag, rfl, h⟩ := planArg_inv h
    obtain ⟨rfl, hK⟩ := noH_inv h
    refine ⟨rfl, fun w0 fp ρi => ?_⟩
    dsimp only [c51, cons156, S156, planArg, noH, keeps, SVal.bd, bdL, bdCs, Chunk.bd, keeps, SVal.bd, bdL, bdCs, Chunk.bd, evFn, evCode, evItems, evQ, evOp, Opd.ev, evL, getE, put, kill, dead, binV, kEq, Nat.beq, Nat.ble, Nat.blt, and, or, not, cond_true, cond_false, Heap.push, Heap.find, Heap.set, Heap.drop, findE, SVal.chunks, ↓rdC_hit, ↓rdC_skip, ↓rdC_ints, ↓rdC_iskip, ↓rdC_rows, ↓wrC_hit, ↓wrC_skip, ↓wrC_ints, ↓wrC_iskip, ↓takeN_nil, ↓takeN_zero, ↓takeN_one, ↓takeN_ints, ↓dropN_nil, ↓dropN_zero, ↓dropN_one, ↓dropN_ints, ↓rdA_hit, ↓rdA_skip, ↓rdA_ints, ↓rdA_iskip, ↓rdA_rows, ↓wrA_hit, ↓wrA_skip, ↓wrA_ints, ↓wrA_iskip, rdC_hit, rdC_skip, rdC_ints, rdC_iskip, rdC_rows, wrC_hit, wrC_skip, wrC_ints, wrC_iskip, takeN_nil, takeN_zero, takeN_one, takeN_ints, dropN_nil, dropN_zero, dropN_one, dropN_ints, rdA_hit, rdA_skip, rdA_ints, rdA_iskip, rdA_rows, wrA_hit, wrA_skip, wrA_ints, wrA_iskip, lenCs, Chunk.len, isB, isCell, cellCs, Res.ev, RV.ev, getL, argEnv, withC, findC, callS, denil, nilV, nilE, extL, extV, extCs, winC, rangeC, disjOk, clash, heapOf, putAll, putC, wrWin, newEnts, kap, getP, SVal.ren, SAddr.ren, renCs, renL, Chunk.ren, plainCs, plainV, AOp.looks, srcI, optE, bndE, slo, evInts, evBuild, zerosL, List.length_cons, List.length_nil, List.cons_append, List.nil_append, List.append_nil, Nat.reduceAdd, Nat.reduceSub, Nat.add_zero, Nat.zero_add, Bool.and_true, Bool.true_and, Bool.and_false, Bool.false_and, Bool.or_false, Bool.not_false, Bool.not_true, memN, Option.getD, List.set]
    intro c hc
    refine ret_tau [] rfl hK ?_ ?_ ?_ ?_ ?_
    all_goals (first | rfl | trivial | (dsimp only [heapSub, injSub, envSub, bdCs, bdL, Chunk.bd, SVal.bd, tau, tauE, whole, SVal.ren, SAddr.ren, renCs, renL, Chunk.ren, Heap.find, findE, getE, Nat.beq, cond_true, cond_false, Heap.push, Heap.drop, Heap.set, nilE, nilV, List.map]; (repeat' apply And.intro) <;> first | rfl | trivial | decide | omega))
  · exact h.elim
def cons51 : Con := ⟨75, S51, [], [], []⟩
/-- How many items there are on a level. -/
def S53 : Sx.Spec := fun args H K => match args with
  | [a, .int .i64 l] => planArg a fun p => noH H (K (.int .i64 (p.width l)) ⟨0, []⟩)
  | _ => False
theorem PlanV.width_out {p : PlanV} {l : Int} (h : l < 0 ∨ (p.widths.length : Int) ≤ l) : p.width l = 0 := by
  unfold PlanV.width
  split
  · rw [List.getD_eq_getElem?_getD, List.getElem?_eq_none (by omega)]; rfl
  · rfl
/-- How many lines of data there are. -/
def S55 : Sx.Spec := fun args H K => match args with
  | [a] => planArg a fun p => noH H (K (.int .i64 p.all) ⟨0, []⟩)
  | _ => False
theorem PlanV.all_le {p : PlanV} (h : p.shaped = true) : 1 ≤ p.pages * p.lines ∧ p.pages * p.lines ≤ 128 := by
  have := of_decide_eq_true h
  have h1 : p.pages * p.lines ≤ 16 * p.lines := Int.mul_le_mul_of_nonneg_right (by omega) (by omega)
  have h2 : 1 * p.lines ≤ p.pages * p.lines := Int.mul_le_mul_of_nonneg_right (by omega) (by omega)
  omega
end Go.Proofs.Ytggpebgigddogaa
