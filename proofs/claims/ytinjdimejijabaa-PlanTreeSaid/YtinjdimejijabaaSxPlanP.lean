/- Two parts of the proof. -/
import Derived.Test.YtinjdimejijabaaSxT15
import Derived.Test.YtinjdimejijabaaSxLem2
import Derived.Test.YtinjdimejijabaaSxG
import Derived.Test.YtinjdimejijabaaSxT17
set_option linter.unusedVariables false
set_option linter.unusedSimpArgs false
namespace Go.Proofs.Ytinjdimejijabaa
open Go.Sx
end Go.Proofs.Ytinjdimejijabaa

namespace Go.Proofs.Ytinjdimejijabaa
open Go.Sx
def S48 : Sx.ZgX := fun args H K => match args with
  | [] => noH H (K (.bool true) ⟨0, []⟩)
  | _ => False
set_option maxHeartbeats 4000000 in
theorem s48 : Sound Try.prog 11 S48 := by
  have hΓ : ZaZ Try.prog (Zcl [ZhU, Zkq]) := Zca ⟨s51, s53, trivial⟩
  refine ZcJ hΓ Zj3 ?_
  intro args H K h
  unfold S48 at h
  split at h
  · obtain ⟨rfl, hK⟩ := Zc2 h
    refine ⟨rfl, fun w0 fp ρi => ?_⟩
    dsimp only [c48, ZhU, Zkq, S51, S53, ZbV, noH, Za7, SVal.bd, bdL, ZbK, Chunk.bd, Za7, SVal.bd, bdL, ZbK, Chunk.bd, Zjd, Zbk, Za4, evQ, ZbA, Opd.ev, evL, ZbD, put, ZeI, Zfj, Zg1, kEq, Nat.beq, Nat.ble, Nat.blt, and, or, not, cond_true, cond_false, Heap.push, Heap.find, Heap.set, Heap.drop, Zbd, SVal.chunks, ↓Zba, ↓ZaQ, ↓ZaS, ↓Zaz, ↓ZaR, ↓Za8, ↓ZaL, ↓ZaM, ↓Zav, ↓Zay, ↓Zak, ↓Zax, ↓Zal, ↓ZaE, ↓Zam, ↓ZaD, ↓Zan, ↓Zbb, ↓ZaT, ↓ZaV, ↓ZaA, ↓ZaU, ↓Za9, ↓ZaN, ↓ZaO, ↓Zaw, Zba, ZaQ, ZaS, Zaz, ZaR, Za8, ZaL, ZaM, Zav, Zay, Zak, Zax, Zal, ZaE, Zam, ZaD, Zan, Zbb, ZaT, ZaV, ZaA, ZaU, Za9, ZaN, ZaO, Zaw, Zac, Chunk.len, isB, Zcs, ZbM, Res.ev, RV.ev, ZhO, ZbU, Zcl, Zd6, Zea, Zc7, Zdl, Zcz, Zg0, ZgN, ZcL, Zgm, ZbX, ZbY, Zd9, Zbl, Zb4, Zh8, ZcW, Za1, kap, ZgZ, SVal.ren, SAddr.ren, Zai, Zb3, Chunk.ren, Zau, ZbS, AOp.looks, Zh3, Zic, Zjz, slo, Zcf, ZbJ, Zb9, List.length_cons, List.length_nil, List.cons_append, List.nil_append, List.append_nil, Nat.reduceAdd, Nat.reduceSub, Nat.add_zero, Nat.zero_add, Bool.and_true, Bool.true_and, Bool.and_false, Bool.false_and, Bool.or_false, Bool.not_false, Bool.not_true, Zg7, Option.getD, List.set]
    refine ⟨true, fun _ => ⟨(by first | exact True.intro | ((repeat' apply And.intro) <;> first | exact True.intro | rfl)), by decide +kernel⟩, fun h => absurd h (by decide +kernel), true, fun _ => ⟨(by first | exact True.intro | ((repeat' apply And.intro) <;> first | exact True.intro | rfl)), by decide +kernel⟩, fun h => (by cases h), ?_⟩
    refine ZcC [] rfl hK ?_ ?_ ?_ ?_ ?_
    all_goals (first | rfl | trivial | (dsimp only [Zar, Zbj, Za6, ZbK, bdL, Chunk.bd, SVal.bd, tau, ZeU, Zbm, SVal.ren, SAddr.ren, Zai, Zb3, Chunk.ren, Heap.find, Zbd, ZbD, Nat.beq, cond_true, cond_false, Heap.push, Heap.drop, Heap.set, Zcz, Zdl, List.map]; (repeat' apply And.intro) <;> first | rfl | trivial | decide | omega))
  · exact h.elim
end Go.Proofs.Ytinjdimejijabaa

namespace Go.Proofs.Ytinjdimejijabaa
open Go.Sx
def Zgi : Zec := fun args => match args with
  | [.agg [.one (.int .i64 p_0), .one (.int .i64 p_1), .one (.int .i64 p_2), .one (.int .i64 p_3), .one (.int .i64 p_4), .one (.int .i64 p_5), .one (.int .u64 p_6), .one (.int .i64 p_7), .one (.int .i64 p_8), .one (.int .i64 p_9), .one (.int .i64 p_10), .one (.int .i64 p_11), .one (.int .i64 p_12), .one (.int .i64 p_13), .ints .u8 p_14_n p_14, .ints .u8 p_15_n p_15]] => bif Nat.beq p_14_n 16 && Nat.beq p_15_n 16 then some (True, .int .i64 ((PlanV.levels (PlanV.mk p_0 p_1 p_2 p_3 p_4 p_5 p_6 p_7 p_8 p_9 p_10 p_11 p_12 p_13 p_14 p_15) : Nat) : Int)) else none
  | _ => none
def ZiX : PCon := ⟨13, Zgi⟩
theorem ZjI : Sound Try.prog 13 (Zc0 Zgi) := by
  intro args H K h
  obtain ⟨pre, v, hP, hpre, rfl, hK⟩ := Zbt h
  refine s51 args ⟨0, []⟩ K ?_
  unfold Zgi at hP
  split at hP
  · obtain ⟨hb, hP⟩ := Zag hP
    simp only [Bool.and_eq_true] at hb
    obtain ⟨h0, h1⟩ := hb
    obtain rfl := Nat.eq_of_beq_eq_true h0
    obtain rfl := Nat.eq_of_beq_eq_true h1
    cases hP
    exact hK
  · cases hP
def Zhx : Zec := fun args => match args with
  | [.agg [.one (.int .i64 p_0), .one (.int .i64 p_1), .one (.int .i64 p_2), .one (.int .i64 p_3), .one (.int .i64 p_4), .one (.int .i64 p_5), .one (.int .u64 p_6), .one (.int .i64 p_7), .one (.int .i64 p_8), .one (.int .i64 p_9), .one (.int .i64 p_10), .one (.int .i64 p_11), .one (.int .i64 p_12), .one (.int .i64 p_13), .ints .u8 p_14_n p_14, .ints .u8 p_15_n p_15], .int .i64 l] => bif Nat.beq p_14_n 16 && Nat.beq p_15_n 16 then some (True, .int .i64 (PlanV.width (PlanV.mk p_0 p_1 p_2 p_3 p_4 p_5 p_6 p_7 p_8 p_9 p_10 p_11 p_12 p_13 p_14 p_15) l)) else none
  | _ => none
def ZjO : PCon := ⟨14, Zhx⟩
theorem ZkD : Sound Try.prog 14 (Zc0 Zhx) := by
  intro args H K h
  obtain ⟨pre, v, hP, hpre, rfl, hK⟩ := Zbt h
  refine s53 args ⟨0, []⟩ K ?_
  unfold Zhx at hP
  split at hP
  · obtain ⟨hb, hP⟩ := Zag hP
    simp only [Bool.and_eq_true] at hb
    obtain ⟨h0, h1⟩ := hb
    obtain rfl := Nat.eq_of_beq_eq_true h0
    obtain rfl := Nat.eq_of_beq_eq_true h1
    cases hP
    exact hK
  · cases hP
def Zhy : Zec := fun args => match args with
  | [.agg [.one (.int .i64 p_0), .one (.int .i64 p_1), .one (.int .i64 p_2), .one (.int .i64 p_3), .one (.int .i64 p_4), .one (.int .i64 p_5), .one (.int .u64 p_6), .one (.int .i64 p_7), .one (.int .i64 p_8), .one (.int .i64 p_9), .one (.int .i64 p_10), .one (.int .i64 p_11), .one (.int .i64 p_12), .one (.int .i64 p_13), .ints .u8 p_14_n p_14, .ints .u8 p_15_n p_15]] => bif Nat.beq p_14_n 16 && Nat.beq p_15_n 16 then some (True, .int .i64 (PlanV.least (PlanV.mk p_0 p_1 p_2 p_3 p_4 p_5 p_6 p_7 p_8 p_9 p_10 p_11 p_12 p_13 p_14 p_15))) else none
  | _ => none
def ZjP : PCon := ⟨48, Zhy⟩
theorem ZkE : Sound Try.prog 48 (Zc0 Zhy) := by
  intro args H K h
  obtain ⟨pre, v, hP, hpre, rfl, hK⟩ := Zbt h
  refine s57 args ⟨0, []⟩ K ?_
  unfold Zhy at hP
  split at hP
  · obtain ⟨hb, hP⟩ := Zag hP
    simp only [Bool.and_eq_true] at hb
    obtain ⟨h0, h1⟩ := hb
    obtain rfl := Nat.eq_of_beq_eq_true h0
    obtain rfl := Nat.eq_of_beq_eq_true h1
    cases hP
    exact hK
  · cases hP
def Zgh : Zec := fun args => match args with
  | [] => some (True, .bool true)
  | _ => none
def ZiV : PCon := ⟨11, Zgh⟩
theorem ZjH : Sound Try.prog 11 (Zc0 Zgh) := by
  intro args H K h
  obtain ⟨pre, v, hP, hpre, rfl, hK⟩ := Zbt h
  refine s48 args ⟨0, []⟩ K ?_
  unfold Zgh at hP
  split at hP
  · cases hP
    exact hK
  · cases hP
end Go.Proofs.Ytinjdimejijabaa
