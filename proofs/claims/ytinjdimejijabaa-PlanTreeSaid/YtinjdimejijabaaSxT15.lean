/- Two parts of the proof. -/
import Derived.Test.YtinjdimejijabaaSxT13
set_option linter.unusedVariables false
set_option linter.unusedSimpArgs false
namespace Go.Proofs.Ytinjdimejijabaa
open Go.Sx
def Zgd : Con := ⟨49, ZmI, [], [], []⟩
def S51 : Sx.ZgX := fun args H K => match args with
  | [a] => ZbV a fun p => noH H (K (.int .i64 (p.levels : Int)) ⟨0, []⟩)
  | _ => False
theorem s51 : Sound Try.prog 13 S51 := by
  have hΓ : ZaZ Try.prog (Zcl [Zgd]) := Zca ⟨Znm, trivial⟩
  refine ZcJ hΓ Zj2 ?_
  intro args H K h
  unfold S51 at h
  split at h
  · obtain ⟨cores, banks, pages, lines, arity, minor, major, ns, nw, fs, fw, met, queue, kind, key, tag, rfl, h⟩ := Zb5 h
    obtain ⟨rfl, hK⟩ := Zc2 h
    refine ⟨rfl, fun w0 fp ρi => ?_⟩
    dsimp only [c51, Zgd, ZmI, ZbV, noH, Za7, SVal.bd, bdL, ZbK, Chunk.bd, Za7, SVal.bd, bdL, ZbK, Chunk.bd, Zjd, Zbk, Za4, evQ, ZbA, Opd.ev, evL, ZbD, put, ZeI, Zfj, Zg1, kEq, Nat.beq, Nat.ble, Nat.blt, and, or, not, cond_true, cond_false, Heap.push, Heap.find, Heap.set, Heap.drop, Zbd, SVal.chunks, ↓Zba, ↓ZaQ, ↓ZaS, ↓Zaz, ↓ZaR, ↓Za8, ↓ZaL, ↓ZaM, ↓Zav, ↓Zay, ↓Zak, ↓Zax, ↓Zal, ↓ZaE, ↓Zam, ↓ZaD, ↓Zan, ↓Zbb, ↓ZaT, ↓ZaV, ↓ZaA, ↓ZaU, ↓Za9, ↓ZaN, ↓ZaO, ↓Zaw, Zba, ZaQ, ZaS, Zaz, ZaR, Za8, ZaL, ZaM, Zav, Zay, Zak, Zax, Zal, ZaE, Zam, ZaD, Zan, Zbb, ZaT, ZaV, ZaA, ZaU, Za9, ZaN, ZaO, Zaw, Zac, Chunk.len, isB, Zcs, ZbM, Res.ev, RV.ev, ZhO, ZbU, Zcl, Zd6, Zea, Zc7, Zdl, Zcz, Zg0, ZgN, ZcL, Zgm, ZbX, ZbY, Zd9, Zbl, Zb4, Zh8, ZcW, Za1, kap, ZgZ, SVal.ren, SAddr.ren, Zai, Zb3, Chunk.ren, Zau, ZbS, AOp.looks, Zh3, Zic, Zjz, slo, Zcf, ZbJ, Zb9, List.length_cons, List.length_nil, List.cons_append, List.nil_append, List.append_nil, Nat.reduceAdd, Nat.reduceSub, Nat.add_zero, Nat.zero_add, Bool.and_true, Bool.true_and, Bool.and_false, Bool.false_and, Bool.or_false, Bool.not_false, Bool.not_true, Zg7, Option.getD, List.set]
    intro c hc
    refine ZcC [] rfl hK ?_ ?_ ?_ ?_ ?_
    all_goals (first | rfl | trivial | (dsimp only [Zar, Zbj, Za6, ZbK, bdL, Chunk.bd, SVal.bd, tau, ZeU, Zbm, SVal.ren, SAddr.ren, Zai, Zb3, Chunk.ren, Heap.find, Zbd, ZbD, Nat.beq, cond_true, cond_false, Heap.push, Heap.drop, Heap.set, Zcz, Zdl, List.map]; (repeat' apply And.intro) <;> first | rfl | trivial | decide | omega))
  · exact h.elim
def ZhU : Con := ⟨13, S51, [], [], []⟩
def S53 : Sx.ZgX := fun args H K => match args with
  | [a, .int .i64 l] => ZbV a fun p => noH H (K (.int .i64 (p.width l)) ⟨0, []⟩)
  | _ => False
theorem PlanV.width_out {p : PlanV} {l : Int} (h : l < 0 ∨ (p.widths.length : Int) <= l) : p.width l = 0 := by
  unfold PlanV.width
  split
  · rw [List.getD_eq_getElem?_getD, List.getElem?_eq_none (by omega)]; rfl
  · rfl
theorem s53 : Sound Try.prog 14 S53 := by
  have hΓ : ZaZ Try.prog (Zcl [Zgd]) := Zca ⟨Znm, trivial⟩
  refine ZcJ hΓ Zj1 ?_
  intro args H K h
  unfold S53 at h
  split at h
  · rename_i a l
    obtain ⟨cores, banks, pages, lines, arity, minor, major, ns, nw, fs, fw, met, queue, kind, key, tag, rfl, h⟩ := Zb5 h
    obtain ⟨rfl, hK⟩ := Zc2 h
    refine ⟨rfl, fun w0 fp ρi => ?_⟩
    dsimp only [c53, Zgd, ZmI, ZbV, noH, Za7, SVal.bd, bdL, ZbK, Chunk.bd, Za7, SVal.bd, bdL, ZbK, Chunk.bd, Zjd, Zbk, Za4, evQ, ZbA, Opd.ev, evL, ZbD, put, ZeI, Zfj, Zg1, kEq, Nat.beq, Nat.ble, Nat.blt, and, or, not, cond_true, cond_false, Heap.push, Heap.find, Heap.set, Heap.drop, Zbd, SVal.chunks, ↓Zba, ↓ZaQ, ↓ZaS, ↓Zaz, ↓ZaR, ↓Za8, ↓ZaL, ↓ZaM, ↓Zav, ↓Zay, ↓Zak, ↓Zax, ↓Zal, ↓ZaE, ↓Zam, ↓ZaD, ↓Zan, ↓Zbb, ↓ZaT, ↓ZaV, ↓ZaA, ↓ZaU, ↓Za9, ↓ZaN, ↓ZaO, ↓Zaw, Zba, ZaQ, ZaS, Zaz, ZaR, Za8, ZaL, ZaM, Zav, Zay, Zak, Zax, Zal, ZaE, Zam, ZaD, Zan, Zbb, ZaT, ZaV, ZaA, ZaU, Za9, ZaN, ZaO, Zaw, Zac, Chunk.len, isB, Zcs, ZbM, Res.ev, RV.ev, ZhO, ZbU, Zcl, Zd6, Zea, Zc7, Zdl, Zcz, Zg0, ZgN, ZcL, Zgm, ZbX, ZbY, Zd9, Zbl, Zb4, Zh8, ZcW, Za1, kap, ZgZ, SVal.ren, SAddr.ren, Zai, Zb3, Chunk.ren, Zau, ZbS, AOp.looks, Zh3, Zic, Zjz, slo, Zcf, ZbJ, Zb9, List.length_cons, List.length_nil, List.cons_append, List.nil_append, List.append_nil, Nat.reduceAdd, Nat.reduceSub, Nat.add_zero, Nat.zero_add, Bool.and_true, Bool.true_and, Bool.and_false, Bool.false_and, Bool.or_false, Bool.not_false, Bool.not_true, Zg7, Option.getD, List.set]
    generalize PlanV.mk cores banks pages lines arity minor major ns nw fs fw met queue kind key tag = p at *
    intro c hc
    refine ZnR (by first | exact True.intro | ((repeat' apply And.intro) <;> first | exact True.intro | rfl)) ⟨fun h => ?_, fun h => ?_⟩
    · rw [PlanV.width_out (by simpa using h)] at hK
      refine ZcC [] rfl hK ?_ ?_ ?_ ?_ ?_
      all_goals (first | rfl | trivial | (dsimp only [Zar, Zbj, Za6, ZbK, bdL, Chunk.bd, SVal.bd, tau, ZeU, Zbm, SVal.ren, SAddr.ren, Zai, Zb3, Chunk.ren, Heap.find, Zbd, ZbD, Nat.beq, cond_true, cond_false, Heap.push, Heap.drop, Heap.set, Zcz, Zdl, List.map]; (repeat' apply And.intro) <;> first | rfl | trivial | decide | omega))
    · simp only [Bool.or_eq_false_iff, decide_eq_false_iff_not] at h
      refine ⟨by omega, by omega, by omega, ?_⟩
      have e : p.width l = p.widths.getD l.toNat 0 := by unfold PlanV.width; rw [if_pos (by omega)]
      rw [e] at hK
      simp only [Nat.zero_add]
      refine ZcC [] rfl hK ?_ ?_ ?_ ?_ ?_
      all_goals (first | rfl | trivial | (dsimp only [Zar, Zbj, Za6, ZbK, bdL, Chunk.bd, SVal.bd, tau, ZeU, Zbm, SVal.ren, SAddr.ren, Zai, Zb3, Chunk.ren, Heap.find, Zbd, ZbD, Nat.beq, cond_true, cond_false, Heap.push, Heap.drop, Heap.set, Zcz, Zdl, List.map]; (repeat' apply And.intro) <;> first | rfl | trivial | decide | omega))
  · exact h.elim
def Zkq : Con := ⟨14, S53, [], [], []⟩
end Go.Proofs.Ytinjdimejijabaa

namespace Go.Proofs.Ytinjdimejijabaa
open Go.Sx
def S57 : Sx.ZgX := fun args H K => match args with
  | [a] => ZbV a fun p => noH H (K (.int .i64 p.least) ⟨0, []⟩)
  | _ => False
theorem PlanV.least_arith {p : PlanV} (h : p.shaped = true) : IntKind.i64.wrap (p.banks * p.levels) = p.banks * p.levels /\ IntKind.i64.wrap (p.banks * p.levels + 1) = p.least := by
  have hl := PlanV.least_le h
  have he : p.least = p.banks * p.levels + 1 := by unfold PlanV.least; rw [if_pos h]
  have hs := of_decide_eq_true h
  have h0 : 0 <= p.banks * (p.levels : Int) := Int.mul_nonneg (by omega) (by omega)
  exact ⟨wrap_i64 (by omega) (by omega), by rw [wrap_i64 (by omega) (by omega), he]⟩
theorem s57 : Sound Try.prog 48 S57 := by
  have hΓ : ZaZ Try.prog (Zcl [ZhU, Zge]) := Zca ⟨s51, Znn, trivial⟩
  refine ZcJ hΓ Zj0 ?_
  intro args H K h
  unfold S57 at h
  split at h
  · obtain ⟨cores, banks, pages, lines, arity, minor, major, ns, nw, fs, fw, met, queue, kind, key, tag, rfl, h⟩ := Zb5 h
    obtain ⟨rfl, hK⟩ := Zc2 h
    refine ⟨rfl, fun w0 fp ρi => ?_⟩
    dsimp only [c57, ZhU, Zge, ZmJ, S51, ZbV, noH, Za7, SVal.bd, bdL, ZbK, Chunk.bd, Za7, SVal.bd, bdL, ZbK, Chunk.bd, Zjd, Zbk, Za4, evQ, ZbA, Opd.ev, evL, ZbD, put, ZeI, Zfj, Zg1, kEq, Nat.beq, Nat.ble, Nat.blt, and, or, not, cond_true, cond_false, Heap.push, Heap.find, Heap.set, Heap.drop, Zbd, SVal.chunks, ↓Zba, ↓ZaQ, ↓ZaS, ↓Zaz, ↓ZaR, ↓Za8, ↓ZaL, ↓ZaM, ↓Zav, ↓Zay, ↓Zak, ↓Zax, ↓Zal, ↓ZaE, ↓Zam, ↓ZaD, ↓Zan, ↓Zbb, ↓ZaT, ↓ZaV, ↓ZaA, ↓ZaU, ↓Za9, ↓ZaN, ↓ZaO, ↓Zaw, Zba, ZaQ, ZaS, Zaz, ZaR, Za8, ZaL, ZaM, Zav, Zay, Zak, Zax, Zal, ZaE, Zam, ZaD, Zan, Zbb, ZaT, ZaV, ZaA, ZaU, Za9, ZaN, ZaO, Zaw, Zac, Chunk.len, isB, Zcs, ZbM, Res.ev, RV.ev, ZhO, ZbU, Zcl, Zd6, Zea, Zc7, Zdl, Zcz, Zg0, ZgN, ZcL, Zgm, ZbX, ZbY, Zd9, Zbl, Zb4, Zh8, ZcW, Za1, kap, ZgZ, SVal.ren, SAddr.ren, Zai, Zb3, Chunk.ren, Zau, ZbS, AOp.looks, Zh3, Zic, Zjz, slo, Zcf, ZbJ, Zb9, List.length_cons, List.length_nil, List.cons_append, List.nil_append, List.append_nil, Nat.reduceAdd, Nat.reduceSub, Nat.add_zero, Nat.zero_add, Bool.and_true, Bool.true_and, Bool.and_false, Bool.false_and, Bool.or_false, Bool.not_false, Bool.not_true, Zg7, Option.getD, List.set]
    refine ⟨fun h => ?_, fun h => ?_⟩
    · have hs := Zmv h
      unfold PlanV.least at hK
      rw [hs] at hK
      refine ZcC [] rfl hK ?_ ?_ ?_ ?_ ?_
      all_goals (first | rfl | trivial | (dsimp only [Zar, Zbj, Za6, ZbK, bdL, Chunk.bd, SVal.bd, tau, ZeU, Zbm, SVal.ren, SAddr.ren, Zai, Zb3, Chunk.ren, Heap.find, Zbd, ZbD, Nat.beq, cond_true, cond_false, Heap.push, Heap.drop, Heap.set, Zcz, Zdl, List.map]; (repeat' apply And.intro) <;> first | rfl | trivial | decide | omega))
    · have hs := Zmw h
      refine ⟨.int .i64 _, by simp only [SVal.bd], ⟨rfl, (by first | exact True.intro | ((repeat' apply And.intro) <;> first | exact True.intro | rfl))⟩, ?_⟩
      dsimp only [Za7, SVal.bd, bdL, ZbK, Chunk.bd, Za7, SVal.bd, bdL, ZbK, Chunk.bd, Zjd, Zbk, Za4, evQ, ZbA, Opd.ev, evL, ZbD, put, ZeI, Zfj, Zg1, kEq, Nat.beq, Nat.ble, Nat.blt, and, or, not, cond_true, cond_false, Heap.push, Heap.find, Heap.set, Heap.drop, Zbd, SVal.chunks, ↓Zba, ↓ZaQ, ↓ZaS, ↓Zaz, ↓ZaR, ↓Za8, ↓ZaL, ↓ZaM, ↓Zav, ↓Zay, ↓Zak, ↓Zax, ↓Zal, ↓ZaE, ↓Zam, ↓ZaD, ↓Zan, ↓Zbb, ↓ZaT, ↓ZaV, ↓ZaA, ↓ZaU, ↓Za9, ↓ZaN, ↓ZaO, ↓Zaw, Zba, ZaQ, ZaS, Zaz, ZaR, Za8, ZaL, ZaM, Zav, Zay, Zak, Zax, Zal, ZaE, Zam, ZaD, Zan, Zbb, ZaT, ZaV, ZaA, ZaU, Za9, ZaN, ZaO, Zaw, Zac, Chunk.len, isB, Zcs, ZbM, Res.ev, RV.ev, ZhO, ZbU, Zcl, Zd6, Zea, Zc7, Zdl, Zcz, Zg0, ZgN, ZcL, Zgm, ZbX, ZbY, Zd9, Zbl, Zb4, Zh8, ZcW, Za1, kap, ZgZ, SVal.ren, SAddr.ren, Zai, Zb3, Chunk.ren, Zau, ZbS, AOp.looks, Zh3, Zic, Zjz, slo, Zcf, ZbJ, Zb9, List.length_cons, List.length_nil, List.cons_append, List.nil_append, List.append_nil, Nat.reduceAdd, Nat.reduceSub, Nat.add_zero, Nat.zero_add, Bool.and_true, Bool.true_and, Bool.and_false, Bool.false_and, Bool.or_false, Bool.not_false, Bool.not_true, Zg7, Option.getD, List.set]
      have ha := PlanV.least_arith hs
      dsimp only at ha
      rw [ha.1, ha.2]
      refine ZcC [] rfl hK ?_ ?_ ?_ ?_ ?_
      all_goals (first | rfl | trivial | (dsimp only [Zar, Zbj, Za6, ZbK, bdL, Chunk.bd, SVal.bd, tau, ZeU, Zbm, SVal.ren, SAddr.ren, Zai, Zb3, Chunk.ren, Heap.find, Zbd, ZbD, Nat.beq, cond_true, cond_false, Heap.push, Heap.drop, Heap.set, Zcz, Zdl, List.map]; (repeat' apply And.intro) <;> first | rfl | trivial | decide | omega))
  · exact h.elim
end Go.Proofs.Ytinjdimejijabaa
