/- Two parts of the proof. -/
import Derived.Test.YtinjdimejijabaaSxT13
set_option linter.unusedVariables false
set_option linter.unusedSimpArgs false
namespace Go.Proofs.Ytinjdimejijabaa
open Go.Sx
def Zyk : Con := ⟨49, ZOH, [], [], []⟩
def S51 : Sx.ZjV := fun args H K => match args with
  | [a] => Zb5 a fun p => noH H (K (.int .i64 (p.levels : Int)) ⟨0, []⟩)
  | _ => False
theorem s51 : Sound Try.prog 13 S51 := by
  have hΓ : Zbg Try.prog (ZbI [Zyk]) := Zcn ⟨ZR8, trivial⟩
  refine Zcv hΓ ZAI ?_
  intro args H K h
  unfold S51 at h
  split at h
  · obtain ⟨cores, banks, pages, lines, arity, minor, major, ns, nw, fs, fw, met, queue, kind, key, tag, rfl, h⟩ := Zct h
    obtain ⟨rfl, hK⟩ := Zd0 h
    refine ⟨rfl, fun w0 fp ρi => ?_⟩
    dsimp only [c51, Zyk, ZOH, Zb5, noH, ZaL, SVal.bd, bdL, Zbm, Chunk.bd, ZaL, SVal.bd, bdL, Zbm, Chunk.bd, ZeV, Zbi, Za3, evQ, ZbR, Opd.ev, evL, ZbL, put, ZdO, ZdW, Zez, kEq, Nat.beq, Nat.ble, Nat.blt, and, or, not, cond_true, cond_false, Heap.push, Heap.find, Heap.set, Heap.drop, Za8, SVal.chunks, ↓ZaP, ↓ZaB, ↓ZaD, ↓Zar, ↓ZaC, ↓ZaN, ↓Zax, ↓Zay, ↓Zan, ↓Zaq, ↓Zai, ↓Zap, ↓Zaj, ↓Zau, ↓Zak, ↓Zat, ↓Zal, ↓ZaQ, ↓ZaE, ↓ZaG, ↓Zas, ↓ZaF, ↓ZaO, ↓Zaz, ↓ZaA, ↓Zao, ZaP, ZaB, ZaD, Zar, ZaC, ZaN, Zax, Zay, Zan, Zaq, Zai, Zap, Zaj, Zau, Zak, Zat, Zal, ZaQ, ZaE, ZaG, Zas, ZaF, ZaO, Zaz, ZaA, Zao, Zaw, Chunk.len, isB, ZbB, Zbn, Res.ev, RV.ev, ZeH, Zbr, ZbI, Zcb, Zcd, Zb6, Zca, Zb4, Zev, Zeo, Zb0, Zef, Zbs, Zbu, Zcc, Zbj, Zbw, ZeJ, Zb3, Za2, kap, Zet, SVal.ren, SAddr.ren, ZaR, ZbT, Chunk.ren, ZaS, Zbp, AOp.looks, ZeG, Zel, ZeF, slo, ZbA, Zbc, Zbz, List.length_cons, List.length_nil, List.cons_append, List.nil_append, List.append_nil, Nat.reduceAdd, Nat.reduceSub, Nat.add_zero, Nat.zero_add, Bool.and_true, Bool.true_and, Bool.and_false, Bool.false_and, Bool.or_false, Bool.not_false, Bool.not_true, ZeB, Option.getD, List.set]
    intro c hc
    refine Zcs [] rfl hK ?_ ?_ ?_ ?_ ?_
    all_goals (first | rfl | trivial | (dsimp only [ZaV, Zbl, Zbk, Zbm, bdL, Chunk.bd, SVal.bd, tau, Zed, ZbF, SVal.ren, SAddr.ren, ZaR, ZbT, Chunk.ren, Heap.find, Za8, ZbL, Nat.beq, cond_true, cond_false, Heap.push, Heap.drop, Heap.set, Zb4, Zca, List.map]; (repeat' apply And.intro) <;> first | rfl | trivial | decide | omega))
  · exact h.elim
def ZBo : Con := ⟨13, S51, [], [], []⟩
def S53 : Sx.ZjV := fun args H K => match args with
  | [a, .int .i64 l] => Zb5 a fun p => noH H (K (.int .i64 (p.width l)) ⟨0, []⟩)
  | _ => False
theorem PlanV.width_out {p : PlanV} {l : Int} (h : l < 0 ∨ (p.widths.length : Int) <= l) : p.width l = 0 := by
  unfold PlanV.width
  split
  · rw [List.getD_eq_getElem?_getD, List.getElem?_eq_none (by omega)]; rfl
  · rfl
def S55 : Sx.ZjV := fun args H K => match args with
  | [a] => Zb5 a fun p => noH H (K (.int .i64 p.all) ⟨0, []⟩)
  | _ => False
theorem PlanV.all_le {p : PlanV} (h : p.shaped = true) : 1 <= p.pages * p.lines /\ p.pages * p.lines <= 128 := by
  have := of_decide_eq_true h
  have h1 : p.pages * p.lines <= 16 * p.lines := Int.mul_le_mul_of_nonneg_right (by omega) (by omega)
  have h2 : 1 * p.lines <= p.pages * p.lines := Int.mul_le_mul_of_nonneg_right (by omega) (by omega)
  omega
theorem s55 : Sound Try.prog 57 S55 := by
  have hΓ : Zbg Try.prog (ZbI [Zg9]) := Zcn ⟨ZOt, trivial⟩
  refine Zcv hΓ ZAF ?_
  intro args H K h
  unfold S55 at h
  split at h
  · obtain ⟨cores, banks, pages, lines, arity, minor, major, ns, nw, fs, fw, met, queue, kind, key, tag, rfl, h⟩ := Zct h
    obtain ⟨rfl, hK⟩ := Zd0 h
    refine ⟨rfl, fun w0 fp ρi => ?_⟩
    dsimp only [c55, Zg9, ZoL, Zb5, noH, ZaL, SVal.bd, bdL, Zbm, Chunk.bd, ZaL, SVal.bd, bdL, Zbm, Chunk.bd, ZeV, Zbi, Za3, evQ, ZbR, Opd.ev, evL, ZbL, put, ZdO, ZdW, Zez, kEq, Nat.beq, Nat.ble, Nat.blt, and, or, not, cond_true, cond_false, Heap.push, Heap.find, Heap.set, Heap.drop, Za8, SVal.chunks, ↓ZaP, ↓ZaB, ↓ZaD, ↓Zar, ↓ZaC, ↓ZaN, ↓Zax, ↓Zay, ↓Zan, ↓Zaq, ↓Zai, ↓Zap, ↓Zaj, ↓Zau, ↓Zak, ↓Zat, ↓Zal, ↓ZaQ, ↓ZaE, ↓ZaG, ↓Zas, ↓ZaF, ↓ZaO, ↓Zaz, ↓ZaA, ↓Zao, ZaP, ZaB, ZaD, Zar, ZaC, ZaN, Zax, Zay, Zan, Zaq, Zai, Zap, Zaj, Zau, Zak, Zat, Zal, ZaQ, ZaE, ZaG, Zas, ZaF, ZaO, Zaz, ZaA, Zao, Zaw, Chunk.len, isB, ZbB, Zbn, Res.ev, RV.ev, ZeH, Zbr, ZbI, Zcb, Zcd, Zb6, Zca, Zb4, Zev, Zeo, Zb0, Zef, Zbs, Zbu, Zcc, Zbj, Zbw, ZeJ, Zb3, Za2, kap, Zet, SVal.ren, SAddr.ren, ZaR, ZbT, Chunk.ren, ZaS, Zbp, AOp.looks, ZeG, Zel, ZeF, slo, ZbA, Zbc, Zbz, List.length_cons, List.length_nil, List.cons_append, List.nil_append, List.append_nil, Nat.reduceAdd, Nat.reduceSub, Nat.add_zero, Nat.zero_add, Bool.and_true, Bool.true_and, Bool.and_false, Bool.false_and, Bool.or_false, Bool.not_false, Bool.not_true, ZeB, Option.getD, List.set]
    refine ⟨fun h => ?_, fun h => ?_⟩
    · have hs := Zge h
      unfold PlanV.all at hK
      rw [hs] at hK
      refine Zcs [] rfl hK ?_ ?_ ?_ ?_ ?_
      all_goals (first | rfl | trivial | (dsimp only [ZaV, Zbl, Zbk, Zbm, bdL, Chunk.bd, SVal.bd, tau, Zed, ZbF, SVal.ren, SAddr.ren, ZaR, ZbT, Chunk.ren, Heap.find, Za8, ZbL, Nat.beq, cond_true, cond_false, Heap.push, Heap.drop, Heap.set, Zb4, Zca, List.map]; (repeat' apply And.intro) <;> first | rfl | trivial | decide | omega))
    · have hs := ZfQ h
      have hle := PlanV.all_le hs
      dsimp only at hle
      have e1 : IntKind.i64.wrap (pages * lines) = pages * lines := wrap_i64 (by omega) (by omega)
      unfold PlanV.all at hK
      rw [hs] at hK
      simp only [e1]
      refine Zcs [] rfl hK ?_ ?_ ?_ ?_ ?_
      all_goals (first | rfl | trivial | (dsimp only [ZaV, Zbl, Zbk, Zbm, bdL, Chunk.bd, SVal.bd, tau, Zed, ZbF, SVal.ren, SAddr.ren, ZaR, ZbT, Chunk.ren, Heap.find, Za8, ZbL, Nat.beq, cond_true, cond_false, Heap.push, Heap.drop, Heap.set, Zb4, Zca, List.map]; (repeat' apply And.intro) <;> first | rfl | trivial | decide | omega))
  · exact h.elim
end Go.Proofs.Ytinjdimejijabaa

namespace Go.Proofs.Ytinjdimejijabaa
open Go.Sx
def S57 : Sx.ZjV := fun args H K => match args with
  | [a] => Zb5 a fun p => noH H (K (.int .i64 p.least) ⟨0, []⟩)
  | _ => False
theorem PlanV.least_arith {p : PlanV} (h : p.shaped = true) : IntKind.i64.wrap (p.banks * p.levels) = p.banks * p.levels /\ IntKind.i64.wrap (p.banks * p.levels + 1) = p.least := by
  have hl := PlanV.least_le h
  have he : p.least = p.banks * p.levels + 1 := by unfold PlanV.least; rw [if_pos h]
  have hs := of_decide_eq_true h
  have h0 : 0 <= p.banks * (p.levels : Int) := Int.mul_nonneg (by omega) (by omega)
  exact ⟨wrap_i64 (by omega) (by omega), by rw [wrap_i64 (by omega) (by omega), he]⟩
theorem s57 : Sound Try.prog 48 S57 := by
  have hΓ : Zbg Try.prog (ZbI [ZBo, Zg9]) := Zcn ⟨s51, ZOt, trivial⟩
  refine Zcv hΓ ZAE ?_
  intro args H K h
  unfold S57 at h
  split at h
  · obtain ⟨cores, banks, pages, lines, arity, minor, major, ns, nw, fs, fw, met, queue, kind, key, tag, rfl, h⟩ := Zct h
    obtain ⟨rfl, hK⟩ := Zd0 h
    refine ⟨rfl, fun w0 fp ρi => ?_⟩
    dsimp only [c57, ZBo, Zg9, ZoL, S51, Zb5, noH, ZaL, SVal.bd, bdL, Zbm, Chunk.bd, ZaL, SVal.bd, bdL, Zbm, Chunk.bd, ZeV, Zbi, Za3, evQ, ZbR, Opd.ev, evL, ZbL, put, ZdO, ZdW, Zez, kEq, Nat.beq, Nat.ble, Nat.blt, and, or, not, cond_true, cond_false, Heap.push, Heap.find, Heap.set, Heap.drop, Za8, SVal.chunks, ↓ZaP, ↓ZaB, ↓ZaD, ↓Zar, ↓ZaC, ↓ZaN, ↓Zax, ↓Zay, ↓Zan, ↓Zaq, ↓Zai, ↓Zap, ↓Zaj, ↓Zau, ↓Zak, ↓Zat, ↓Zal, ↓ZaQ, ↓ZaE, ↓ZaG, ↓Zas, ↓ZaF, ↓ZaO, ↓Zaz, ↓ZaA, ↓Zao, ZaP, ZaB, ZaD, Zar, ZaC, ZaN, Zax, Zay, Zan, Zaq, Zai, Zap, Zaj, Zau, Zak, Zat, Zal, ZaQ, ZaE, ZaG, Zas, ZaF, ZaO, Zaz, ZaA, Zao, Zaw, Chunk.len, isB, ZbB, Zbn, Res.ev, RV.ev, ZeH, Zbr, ZbI, Zcb, Zcd, Zb6, Zca, Zb4, Zev, Zeo, Zb0, Zef, Zbs, Zbu, Zcc, Zbj, Zbw, ZeJ, Zb3, Za2, kap, Zet, SVal.ren, SAddr.ren, ZaR, ZbT, Chunk.ren, ZaS, Zbp, AOp.looks, ZeG, Zel, ZeF, slo, ZbA, Zbc, Zbz, List.length_cons, List.length_nil, List.cons_append, List.nil_append, List.append_nil, Nat.reduceAdd, Nat.reduceSub, Nat.add_zero, Nat.zero_add, Bool.and_true, Bool.true_and, Bool.and_false, Bool.false_and, Bool.or_false, Bool.not_false, Bool.not_true, ZeB, Option.getD, List.set]
    refine ⟨fun h => ?_, fun h => ?_⟩
    · have hs := Zge h
      unfold PlanV.least at hK
      rw [hs] at hK
      refine Zcs [] rfl hK ?_ ?_ ?_ ?_ ?_
      all_goals (first | rfl | trivial | (dsimp only [ZaV, Zbl, Zbk, Zbm, bdL, Chunk.bd, SVal.bd, tau, Zed, ZbF, SVal.ren, SAddr.ren, ZaR, ZbT, Chunk.ren, Heap.find, Za8, ZbL, Nat.beq, cond_true, cond_false, Heap.push, Heap.drop, Heap.set, Zb4, Zca, List.map]; (repeat' apply And.intro) <;> first | rfl | trivial | decide | omega))
    · have hs := ZfQ h
      refine ⟨.int .i64 _, by simp only [SVal.bd], ⟨rfl, (by first | exact True.intro | ((repeat' apply And.intro) <;> first | exact True.intro | rfl))⟩, ?_⟩
      dsimp only [ZaL, SVal.bd, bdL, Zbm, Chunk.bd, ZaL, SVal.bd, bdL, Zbm, Chunk.bd, ZeV, Zbi, Za3, evQ, ZbR, Opd.ev, evL, ZbL, put, ZdO, ZdW, Zez, kEq, Nat.beq, Nat.ble, Nat.blt, and, or, not, cond_true, cond_false, Heap.push, Heap.find, Heap.set, Heap.drop, Za8, SVal.chunks, ↓ZaP, ↓ZaB, ↓ZaD, ↓Zar, ↓ZaC, ↓ZaN, ↓Zax, ↓Zay, ↓Zan, ↓Zaq, ↓Zai, ↓Zap, ↓Zaj, ↓Zau, ↓Zak, ↓Zat, ↓Zal, ↓ZaQ, ↓ZaE, ↓ZaG, ↓Zas, ↓ZaF, ↓ZaO, ↓Zaz, ↓ZaA, ↓Zao, ZaP, ZaB, ZaD, Zar, ZaC, ZaN, Zax, Zay, Zan, Zaq, Zai, Zap, Zaj, Zau, Zak, Zat, Zal, ZaQ, ZaE, ZaG, Zas, ZaF, ZaO, Zaz, ZaA, Zao, Zaw, Chunk.len, isB, ZbB, Zbn, Res.ev, RV.ev, ZeH, Zbr, ZbI, Zcb, Zcd, Zb6, Zca, Zb4, Zev, Zeo, Zb0, Zef, Zbs, Zbu, Zcc, Zbj, Zbw, ZeJ, Zb3, Za2, kap, Zet, SVal.ren, SAddr.ren, ZaR, ZbT, Chunk.ren, ZaS, Zbp, AOp.looks, ZeG, Zel, ZeF, slo, ZbA, Zbc, Zbz, List.length_cons, List.length_nil, List.cons_append, List.nil_append, List.append_nil, Nat.reduceAdd, Nat.reduceSub, Nat.add_zero, Nat.zero_add, Bool.and_true, Bool.true_and, Bool.and_false, Bool.false_and, Bool.or_false, Bool.not_false, Bool.not_true, ZeB, Option.getD, List.set]
      have ha := PlanV.least_arith hs
      dsimp only at ha
      rw [ha.1, ha.2]
      refine Zcs [] rfl hK ?_ ?_ ?_ ?_ ?_
      all_goals (first | rfl | trivial | (dsimp only [ZaV, Zbl, Zbk, Zbm, bdL, Chunk.bd, SVal.bd, tau, Zed, ZbF, SVal.ren, SAddr.ren, ZaR, ZbT, Chunk.ren, Heap.find, Za8, ZbL, Nat.beq, cond_true, cond_false, Heap.push, Heap.drop, Heap.set, Zb4, Zca, List.map]; (repeat' apply And.intro) <;> first | rfl | trivial | decide | omega))
  · exact h.elim
def ZBm : Con := ⟨48, S57, [], [], []⟩
theorem ZHu {n a : Int} (ha : 2 <= a) (ha' : a <= 4) (hn : 1 <= n) (hn' : n <= 16) : (0 < n % a -> n / a + 1 = (n + a - 1) / a) /\ (¬ 0 < n % a -> n / a = (n + a - 1) / a) := by
  rcases (show a = 2 ∨ a = 3 ∨ a = 4 by omega) with rfl | rfl | rfl <;> omega
theorem s54 : Sound Try.prog 84 S53 := by
  have hΓ : Zbg Try.prog (ZbI [Zjw]) := Zcn ⟨ZOS, trivial⟩
  refine Zcv hΓ ZAG ?_
  intro args H K h
  unfold S53 at h
  split at h
  · rename_i a l
    obtain ⟨cores, banks, pages, lines, arity, minor, major, ns, nw, fs, fw, met, queue, kind, key, tag, rfl, h⟩ := Zct h
    obtain ⟨rfl, hK⟩ := Zd0 h
    refine ⟨rfl, fun w0 fp ρi => ?_⟩
    dsimp only [c54, Zjw, ZoL, Zb5, noH, ZaL, SVal.bd, bdL, Zbm, Chunk.bd, ZaL, SVal.bd, bdL, Zbm, Chunk.bd, ZeV, Zbi, Za3, evQ, ZbR, Opd.ev, evL, ZbL, put, ZdO, ZdW, Zez, kEq, Nat.beq, Nat.ble, Nat.blt, and, or, not, cond_true, cond_false, Heap.push, Heap.find, Heap.set, Heap.drop, Za8, SVal.chunks, ↓ZaP, ↓ZaB, ↓ZaD, ↓Zar, ↓ZaC, ↓ZaN, ↓Zax, ↓Zay, ↓Zan, ↓Zaq, ↓Zai, ↓Zap, ↓Zaj, ↓Zau, ↓Zak, ↓Zat, ↓Zal, ↓ZaQ, ↓ZaE, ↓ZaG, ↓Zas, ↓ZaF, ↓ZaO, ↓Zaz, ↓ZaA, ↓Zao, ZaP, ZaB, ZaD, Zar, ZaC, ZaN, Zax, Zay, Zan, Zaq, Zai, Zap, Zaj, Zau, Zak, Zat, Zal, ZaQ, ZaE, ZaG, Zas, ZaF, ZaO, Zaz, ZaA, Zao, Zaw, Chunk.len, isB, ZbB, Zbn, Res.ev, RV.ev, ZeH, Zbr, ZbI, Zcb, Zcd, Zb6, Zca, Zb4, Zev, Zeo, Zb0, Zef, Zbs, Zbu, Zcc, Zbj, Zbw, ZeJ, Zb3, Za2, kap, Zet, SVal.ren, SAddr.ren, ZaR, ZbT, Chunk.ren, ZaS, Zbp, AOp.looks, ZeG, Zel, ZeF, slo, ZbA, Zbc, Zbz, List.length_cons, List.length_nil, List.cons_append, List.nil_append, List.append_nil, Nat.reduceAdd, Nat.reduceSub, Nat.add_zero, Nat.zero_add, Bool.and_true, Bool.true_and, Bool.and_false, Bool.false_and, Bool.or_false, Bool.not_false, Bool.not_true, ZeB, Option.getD, List.set]
    refine ZQj (by first | exact True.intro | ((repeat' apply And.intro) <;> first | exact True.intro | rfl)) (ZQj (by first | exact True.intro | ((repeat' apply And.intro) <;> first | exact True.intro | rfl)) ⟨fun h => ?_, fun h => ?_⟩)
    · have h0 : PlanV.width ⟨cores, banks, pages, lines, arity, minor, major, ns, nw, fs, fw, met, queue, kind, key, tag⟩ l = 0 := by
        apply PlanV.width_out
        by_cases hs : PlanV.shaped ⟨cores, banks, pages, lines, arity, minor, major, ns, nw, fs, fw, met, queue, kind, key, tag⟩ = true
        · have h5 := (PlanV.wid hs).len5
          rw [hs] at h
          simp only [Bool.not_true, Bool.false_or, Bool.or_eq_true, decide_eq_true_eq] at h
          omega
        · unfold PlanV.widths
          rw [if_neg hs]
          simp only [List.length_nil]
          omega
      rw [h0] at hK
      refine Zcs [] rfl hK ?_ ?_ ?_ ?_ ?_
      all_goals (first | rfl | trivial | (dsimp only [ZaV, Zbl, Zbk, Zbm, bdL, Chunk.bd, SVal.bd, tau, Zed, ZbF, SVal.ren, SAddr.ren, ZaR, ZbT, Chunk.ren, Heap.find, Za8, ZbL, Nat.beq, cond_true, cond_false, Heap.push, Heap.drop, Heap.set, Zb4, Zca, List.map]; (repeat' apply And.intro) <;> first | rfl | trivial | decide | omega))
    · simp only [Bool.or_eq_false_iff, Bool.not_eq_false', decide_eq_false_iff_not] at h
      obtain ⟨⟨hs, hl0⟩, hl16⟩ := h
      replace hs := ZfQ hs
      have W := PlanV.wid hs
      have hsh := of_decide_eq_true hs
      generalize hws : PlanV.widths ⟨cores, banks, pages, lines, arity, minor, major, ns, nw, fs, fw, met, queue, kind, key, tag⟩ = ws at *
      have hwd : PlanV.width ⟨cores, banks, pages, lines, arity, minor, major, ns, nw, fs, fw, met, queue, kind, key, tag⟩ l = ws.getD l.toNat 0 := by
        unfold PlanV.width
        rw [if_pos (by omega), hws]
      rw [hwd] at hK
      clear hwd hws hs
      dsimp only at W hsh
      obtain ⟨l, rfl⟩ := Int.eq_ofNat_of_zero_le (show 0 <= l by omega)
      simp only [Int.toNat_natCast] at hK
      refine ZeC hΓ (fun _ _ _ _ h => h) (S := {i : Nat // i <= l /\ i < ws.length})
        (fun i => ([(1, some (.int .i64 l)), (2, some (.ptr ⟨0,0,0,1⟩ 46)), (5, some (.int .i64 (ws.getD i.1 0))), (6, some (.int .i64 i.1))], ⟨1, [(0, some ⟨true, [.one (.int .i64 cores), .one (.int .i64 banks), .one (.int .i64 pages), .one (.int .i64 lines), .one (.int .i64 arity), .one (.int .i64 minor), .one (.int .u64 major), .one (.int .i64 ns), .one (.int .i64 nw), .one (.int .i64 fs), .one (.int .i64 fw), .one (.int .i64 met), .one (.int .i64 queue), .one (.int .i64 kind), .ints .u8 16 key, .ints .u8 16 tag], 0⟩)]⟩)) (fun i => l - i.1) ?_ ?_
      · refine ⟨⟨0, by omega, by have := W.len1; omega⟩, tau [], ?_⟩
        simp only [W.first]
        refine ZcL [] rfl ?_ ?_ ?_ ?_
        all_goals (first | rfl | trivial | (dsimp only [ZaV, Zbl, Zbk, Zbm, bdL, Chunk.bd, SVal.bd, tau, Zed, ZbF, SVal.ren, SAddr.ren, ZaR, ZbT, Chunk.ren, Heap.find, Za8, ZbL, Nat.beq, cond_true, cond_false, Heap.push, Heap.drop, Heap.set, Zb4, Zca, List.map]; (repeat' apply And.intro) <;> first | rfl | trivial | decide | omega))
      · rintro ⟨i, hi, hiw⟩
        dsimp only
        dsimp only [ZBt, ZaL, SVal.bd, bdL, Zbm, Chunk.bd, ZaL, SVal.bd, bdL, Zbm, Chunk.bd, ZeV, Zbi, Za3, evQ, ZbR, Opd.ev, evL, ZbL, put, ZdO, ZdW, Zez, kEq, Nat.beq, Nat.ble, Nat.blt, and, or, not, cond_true, cond_false, Heap.push, Heap.find, Heap.set, Heap.drop, Za8, SVal.chunks, ↓ZaP, ↓ZaB, ↓ZaD, ↓Zar, ↓ZaC, ↓ZaN, ↓Zax, ↓Zay, ↓Zan, ↓Zaq, ↓Zai, ↓Zap, ↓Zaj, ↓Zau, ↓Zak, ↓Zat, ↓Zal, ↓ZaQ, ↓ZaE, ↓ZaG, ↓Zas, ↓ZaF, ↓ZaO, ↓Zaz, ↓ZaA, ↓Zao, ZaP, ZaB, ZaD, Zar, ZaC, ZaN, Zax, Zay, Zan, Zaq, Zai, Zap, Zaj, Zau, Zak, Zat, Zal, ZaQ, ZaE, ZaG, Zas, ZaF, ZaO, Zaz, ZaA, Zao, Zaw, Chunk.len, isB, ZbB, Zbn, Res.ev, RV.ev, ZeH, Zbr, ZbI, Zcb, Zcd, Zb6, Zca, Zb4, Zev, Zeo, Zb0, Zef, Zbs, Zbu, Zcc, Zbj, Zbw, ZeJ, Zb3, Za2, kap, Zet, SVal.ren, SAddr.ren, ZaR, ZbT, Chunk.ren, ZaS, Zbp, AOp.looks, ZeG, Zel, ZeF, slo, ZbA, Zbc, Zbz, List.length_cons, List.length_nil, List.cons_append, List.nil_append, List.append_nil, Nat.reduceAdd, Nat.reduceSub, Nat.add_zero, Nat.zero_add, Bool.and_true, Bool.true_and, Bool.and_false, Bool.false_and, Bool.or_false, Bool.not_false, Bool.not_true, ZeB, Option.getD, List.set]
        have hn1 := W.least i hiw
        have hn2 := W.most i hiw
        refine ⟨fun h => ?_, fun h => ?_⟩
        · have hlt : (i : Int) < l := of_decide_eq_true h
          refine ⟨fun h => ?_, fun h => ?_⟩
          · have hone : ws.getD i 0 <= 1 := of_decide_eq_true h
            have hlast : ws.length = i + 1 := by
              by_cases hlt : i + 1 < ws.length
              · have := W.big i hlt; omega
              · omega
            rw [List.getD_eq_getElem?_getD, List.getElem?_eq_none (by omega)] at hK
            refine Zcs [] rfl hK ?_ ?_ ?_ ?_ ?_
            all_goals (first | rfl | trivial | (dsimp only [ZaV, Zbl, Zbk, Zbm, bdL, Chunk.bd, SVal.bd, tau, Zed, ZbF, SVal.ren, SAddr.ren, ZaR, ZbT, Chunk.ren, Heap.find, Za8, ZbL, Nat.beq, cond_true, cond_false, Heap.push, Heap.drop, Heap.set, Zb4, Zca, List.map]; (repeat' apply And.intro) <;> first | rfl | trivial | decide | omega))
          · have hbig : ¬ ws.getD i 0 <= 1 := of_decide_eq_false h
            have hi1 : i + 1 < ws.length := by
              by_cases hlt : i + 1 < ws.length
              · exact hlt
              · have : i = ws.length - 1 := by omega
                have hl := W.last
                rw [<- this] at hl
                omega
            have hnx := W.next i hi1
            have hud := ZHu (n := ws.getD i 0) (a := arity) (by omega) (by omega) hn1 hn2
            have hq0 : 0 <= ws.getD i 0 / arity := Int.ediv_nonneg (by omega) (by omega)
            have hq1 : ws.getD i 0 / arity <= ws.getD i 0 := Int.ediv_le_self _ (by omega)
            have e1 : IntKind.i64.wrap (↑i + 1) = ((i + 1 : Nat) : Int) := wrap_i64 (by omega) (by omega)
            have e2 : (ws.getD i 0).tdiv arity = ws.getD i 0 / arity := Int.tdiv_eq_ediv_of_nonneg (by omega)
            have e3 : (ws.getD i 0).tmod arity = ws.getD i 0 % arity := Int.tmod_eq_emod_of_nonneg (by omega)
            have e4 : IntKind.i64.wrap (ws.getD i 0 / arity) = ws.getD i 0 / arity := wrap_i64 (by omega) (by omega)
            have e5 : IntKind.i64.wrap (ws.getD i 0 / arity + 1) = ws.getD i 0 / arity + 1 := wrap_i64 (by omega) (by omega)
            simp only [e1, e2, e3, e4, e5]
            refine ⟨by omega, by omega, fun h => ?_, fun h => ?_⟩
            · rw [hud.1 (of_decide_eq_true h), <- hnx]
              refine ⟨⟨i + 1, by omega, hi1⟩, tau [], by dsimp only; omega, ?_⟩
              refine ZcL [] rfl ?_ ?_ ?_ ?_
              all_goals (first | rfl | trivial | (dsimp only [ZaV, Zbl, Zbk, Zbm, bdL, Chunk.bd, SVal.bd, tau, Zed, ZbF, SVal.ren, SAddr.ren, ZaR, ZbT, Chunk.ren, Heap.find, Za8, ZbL, Nat.beq, cond_true, cond_false, Heap.push, Heap.drop, Heap.set, Zb4, Zca, List.map]; (repeat' apply And.intro) <;> first | rfl | trivial | decide | omega))
            · rw [hud.2 (of_decide_eq_false h), <- hnx]
              refine ⟨⟨i + 1, by omega, hi1⟩, tau [], by dsimp only; omega, ?_⟩
              refine ZcL [] rfl ?_ ?_ ?_ ?_
              all_goals (first | rfl | trivial | (dsimp only [ZaV, Zbl, Zbk, Zbm, bdL, Chunk.bd, SVal.bd, tau, Zed, ZbF, SVal.ren, SAddr.ren, ZaR, ZbT, Chunk.ren, Heap.find, Za8, ZbL, Nat.beq, cond_true, cond_false, Heap.push, Heap.drop, Heap.set, Zb4, Zca, List.map]; (repeat' apply And.intro) <;> first | rfl | trivial | decide | omega))
        · have hge : ¬ (i : Int) < l := of_decide_eq_false h
          have hil : i = l := by omega
          subst hil
          refine Zcs [] rfl hK ?_ ?_ ?_ ?_ ?_
          all_goals (first | rfl | trivial | (dsimp only [ZaV, Zbl, Zbk, Zbm, bdL, Chunk.bd, SVal.bd, tau, Zed, ZbF, SVal.ren, SAddr.ren, ZaR, ZbT, Chunk.ren, Heap.find, Za8, ZbL, Nat.beq, cond_true, cond_false, Heap.push, Heap.drop, Heap.set, Zb4, Zca, List.map]; (repeat' apply And.intro) <;> first | rfl | trivial | decide | omega))
  · exact h.elim
def Zyj : Con := ⟨84, S53, [], [], []⟩
theorem PlanV.width_pos {p : PlanV} (n : Nat) : 0 < p.width n ↔ n < p.levels := by
  constructor
  · intro h
    by_cases hlt : n < p.levels
    · exact hlt
    · rw [PlanV.width_out (.inr (by unfold PlanV.levels at hlt; omega))] at h
      omega
  · intro h
    by_cases hs : p.shaped = true
    · have := (PlanV.wid hs).least n h
      unfold PlanV.width
      rw [if_pos (by omega), Int.toNat_natCast]
      omega
    · unfold PlanV.levels PlanV.widths at h
      rw [if_neg hs] at h
      simp at h
theorem PlanV.levels_le (p : PlanV) : p.levels <= 5 := by
  by_cases hs : p.shaped = true
  · exact (PlanV.wid hs).len5
  · unfold PlanV.levels PlanV.widths
    rw [if_neg hs]
    simp
theorem s52 : Sound Try.prog 71 S51 := by
  have hΓ : Zbg Try.prog (ZbI [Zyj]) := Zcn ⟨s54, trivial⟩
  refine Zcv hΓ ZAH ?_
  intro args H K h
  unfold S51 at h
  split at h
  · obtain ⟨cores, banks, pages, lines, arity, minor, major, ns, nw, fs, fw, met, queue, kind, key, tag, rfl, h⟩ := Zct h
    obtain ⟨rfl, hK⟩ := Zd0 h
    refine ⟨rfl, fun w0 fp ρi => ?_⟩
    dsimp only [c52, Zyj, S53, Zb5, noH, ZaL, SVal.bd, bdL, Zbm, Chunk.bd, ZaL, SVal.bd, bdL, Zbm, Chunk.bd, ZeV, Zbi, Za3, evQ, ZbR, Opd.ev, evL, ZbL, put, ZdO, ZdW, Zez, kEq, Nat.beq, Nat.ble, Nat.blt, and, or, not, cond_true, cond_false, Heap.push, Heap.find, Heap.set, Heap.drop, Za8, SVal.chunks, ↓ZaP, ↓ZaB, ↓ZaD, ↓Zar, ↓ZaC, ↓ZaN, ↓Zax, ↓Zay, ↓Zan, ↓Zaq, ↓Zai, ↓Zap, ↓Zaj, ↓Zau, ↓Zak, ↓Zat, ↓Zal, ↓ZaQ, ↓ZaE, ↓ZaG, ↓Zas, ↓ZaF, ↓ZaO, ↓Zaz, ↓ZaA, ↓Zao, ZaP, ZaB, ZaD, Zar, ZaC, ZaN, Zax, Zay, Zan, Zaq, Zai, Zap, Zaj, Zau, Zak, Zat, Zal, ZaQ, ZaE, ZaG, Zas, ZaF, ZaO, Zaz, ZaA, Zao, Zaw, Chunk.len, isB, ZbB, Zbn, Res.ev, RV.ev, ZeH, Zbr, ZbI, Zcb, Zcd, Zb6, Zca, Zb4, Zev, Zeo, Zb0, Zef, Zbs, Zbu, Zcc, Zbj, Zbw, ZeJ, Zb3, Za2, kap, Zet, SVal.ren, SAddr.ren, ZaR, ZbT, Chunk.ren, ZaS, Zbp, AOp.looks, ZeG, Zel, ZeF, slo, ZbA, Zbc, Zbz, List.length_cons, List.length_nil, List.cons_append, List.nil_append, List.append_nil, Nat.reduceAdd, Nat.reduceSub, Nat.add_zero, Nat.zero_add, Bool.and_true, Bool.true_and, Bool.and_false, Bool.false_and, Bool.or_false, Bool.not_false, Bool.not_true, ZeB, Option.getD, List.set]
    have hpos := fun n => PlanV.width_pos (p := ⟨cores, banks, pages, lines, arity, minor, major, ns, nw, fs, fw, met, queue, kind, key, tag⟩) n
    have hl5 := PlanV.levels_le ⟨cores, banks, pages, lines, arity, minor, major, ns, nw, fs, fw, met, queue, kind, key, tag⟩
    refine ZeC hΓ (fun _ _ _ _ h => h) (S := {i : Nat // i <= PlanV.levels ⟨cores, banks, pages, lines, arity, minor, major, ns, nw, fs, fw, met, queue, kind, key, tag⟩})
        (fun i => ([(1, some (.ptr ⟨0,0,0,1⟩ 46)), (3, some (.int .i64 i.1))], ⟨1, [(0, some ⟨true, [.one (.int .i64 cores), .one (.int .i64 banks), .one (.int .i64 pages), .one (.int .i64 lines), .one (.int .i64 arity), .one (.int .i64 minor), .one (.int .u64 major), .one (.int .i64 ns), .one (.int .i64 nw), .one (.int .i64 fs), .one (.int .i64 fw), .one (.int .i64 met), .one (.int .i64 queue), .one (.int .i64 kind), .ints .u8 16 key, .ints .u8 16 tag], 0⟩)]⟩)) (fun i => 16 - i.1) ?_ ?_
    · refine ⟨⟨0, by omega⟩, tau [], ?_⟩
      refine ZcL [] rfl ?_ ?_ ?_ ?_
      all_goals (first | rfl | trivial | (dsimp only [ZaV, Zbl, Zbk, Zbm, bdL, Chunk.bd, SVal.bd, tau, Zed, ZbF, SVal.ren, SAddr.ren, ZaR, ZbT, Chunk.ren, Heap.find, Za8, ZbL, Nat.beq, cond_true, cond_false, Heap.push, Heap.drop, Heap.set, Zb4, Zca, List.map]; (repeat' apply And.intro) <;> first | rfl | trivial | decide | omega))
    · rintro ⟨i, hi⟩
      dsimp only
      dsimp only [ZBu, Zyj, S53, Zb5, noH, ZaL, SVal.bd, bdL, Zbm, Chunk.bd, ZaL, SVal.bd, bdL, Zbm, Chunk.bd, ZeV, Zbi, Za3, evQ, ZbR, Opd.ev, evL, ZbL, put, ZdO, ZdW, Zez, kEq, Nat.beq, Nat.ble, Nat.blt, and, or, not, cond_true, cond_false, Heap.push, Heap.find, Heap.set, Heap.drop, Za8, SVal.chunks, ↓ZaP, ↓ZaB, ↓ZaD, ↓Zar, ↓ZaC, ↓ZaN, ↓Zax, ↓Zay, ↓Zan, ↓Zaq, ↓Zai, ↓Zap, ↓Zaj, ↓Zau, ↓Zak, ↓Zat, ↓Zal, ↓ZaQ, ↓ZaE, ↓ZaG, ↓Zas, ↓ZaF, ↓ZaO, ↓Zaz, ↓ZaA, ↓Zao, ZaP, ZaB, ZaD, Zar, ZaC, ZaN, Zax, Zay, Zan, Zaq, Zai, Zap, Zaj, Zau, Zak, Zat, Zal, ZaQ, ZaE, ZaG, Zas, ZaF, ZaO, Zaz, ZaA, Zao, Zaw, Chunk.len, isB, ZbB, Zbn, Res.ev, RV.ev, ZeH, Zbr, ZbI, Zcb, Zcd, Zb6, Zca, Zb4, Zev, Zeo, Zb0, Zef, Zbs, Zbu, Zcc, Zbj, Zbw, ZeJ, Zb3, Za2, kap, Zet, SVal.ren, SAddr.ren, ZaR, ZbT, Chunk.ren, ZaS, Zbp, AOp.looks, ZeG, Zel, ZeF, slo, ZbA, Zbc, Zbz, List.length_cons, List.length_nil, List.cons_append, List.nil_append, List.append_nil, Nat.reduceAdd, Nat.reduceSub, Nat.add_zero, Nat.zero_add, Bool.and_true, Bool.true_and, Bool.and_false, Bool.false_and, Bool.or_false, Bool.not_false, Bool.not_true, ZeB, Option.getD, List.set]
      generalize hW : PlanV.width ⟨cores, banks, pages, lines, arity, minor, major, ns, nw, fs, fw, met, queue, kind, key, tag⟩ ↑i = wd
      have hp := hpos i
      rw [hW] at hp
      refine Ziv (by first | exact True.intro | ((repeat' apply And.intro) <;> first | exact True.intro | rfl)) ⟨fun h => ?_, fun h => ?_⟩
      · simp only [Bool.and_eq_true, decide_eq_true_eq] at h
        have e1 : IntKind.i64.wrap (↑i + 1) = ((i + 1 : Nat) : Int) := wrap_i64 (by omega) (by omega)
        simp only [e1]
        refine ⟨⟨i + 1, by omega⟩, tau [], by dsimp only; omega, ?_⟩
        refine ZcL [] rfl ?_ ?_ ?_ ?_
        all_goals (first | rfl | trivial | (dsimp only [ZaV, Zbl, Zbk, Zbm, bdL, Chunk.bd, SVal.bd, tau, Zed, ZbF, SVal.ren, SAddr.ren, ZaR, ZbT, Chunk.ren, Heap.find, Za8, ZbL, Nat.beq, cond_true, cond_false, Heap.push, Heap.drop, Heap.set, Zb4, Zca, List.map]; (repeat' apply And.intro) <;> first | rfl | trivial | decide | omega))
      · simp only [Bool.and_eq_false_iff, decide_eq_false_iff_not] at h
        have hil : i = PlanV.levels ⟨cores, banks, pages, lines, arity, minor, major, ns, nw, fs, fw, met, queue, kind, key, tag⟩ := by omega
        rw [<- hil] at hK
        refine Zcs [] rfl hK ?_ ?_ ?_ ?_ ?_
        all_goals (first | rfl | trivial | (dsimp only [ZaV, Zbl, Zbk, Zbm, bdL, Chunk.bd, SVal.bd, tau, Zed, ZbF, SVal.ren, SAddr.ren, ZaR, ZbT, Chunk.ren, Heap.find, Za8, ZbL, Nat.beq, cond_true, cond_false, Heap.push, Heap.drop, Heap.set, Zb4, Zca, List.map]; (repeat' apply And.intro) <;> first | rfl | trivial | decide | omega))
  · exact h.elim
def ZBn : Con := ⟨71, S51, [], [], []⟩
theorem s58 : Sound Try.prog 55 S57 := by
  have hΓ : Zbg Try.prog (ZbI [ZBn, Zjw]) := Zcn ⟨s52, ZOS, trivial⟩
  refine Zcv hΓ ZAD ?_
  intro args H K h
  unfold S57 at h
  split at h
  · obtain ⟨cores, banks, pages, lines, arity, minor, major, ns, nw, fs, fw, met, queue, kind, key, tag, rfl, h⟩ := Zct h
    obtain ⟨rfl, hK⟩ := Zd0 h
    refine ⟨rfl, fun w0 fp ρi => ?_⟩
    dsimp only [c58, ZBn, Zjw, ZoL, S51, Zb5, noH, ZaL, SVal.bd, bdL, Zbm, Chunk.bd, ZaL, SVal.bd, bdL, Zbm, Chunk.bd, ZeV, Zbi, Za3, evQ, ZbR, Opd.ev, evL, ZbL, put, ZdO, ZdW, Zez, kEq, Nat.beq, Nat.ble, Nat.blt, and, or, not, cond_true, cond_false, Heap.push, Heap.find, Heap.set, Heap.drop, Za8, SVal.chunks, ↓ZaP, ↓ZaB, ↓ZaD, ↓Zar, ↓ZaC, ↓ZaN, ↓Zax, ↓Zay, ↓Zan, ↓Zaq, ↓Zai, ↓Zap, ↓Zaj, ↓Zau, ↓Zak, ↓Zat, ↓Zal, ↓ZaQ, ↓ZaE, ↓ZaG, ↓Zas, ↓ZaF, ↓ZaO, ↓Zaz, ↓ZaA, ↓Zao, ZaP, ZaB, ZaD, Zar, ZaC, ZaN, Zax, Zay, Zan, Zaq, Zai, Zap, Zaj, Zau, Zak, Zat, Zal, ZaQ, ZaE, ZaG, Zas, ZaF, ZaO, Zaz, ZaA, Zao, Zaw, Chunk.len, isB, ZbB, Zbn, Res.ev, RV.ev, ZeH, Zbr, ZbI, Zcb, Zcd, Zb6, Zca, Zb4, Zev, Zeo, Zb0, Zef, Zbs, Zbu, Zcc, Zbj, Zbw, ZeJ, Zb3, Za2, kap, Zet, SVal.ren, SAddr.ren, ZaR, ZbT, Chunk.ren, ZaS, Zbp, AOp.looks, ZeG, Zel, ZeF, slo, ZbA, Zbc, Zbz, List.length_cons, List.length_nil, List.cons_append, List.nil_append, List.append_nil, Nat.reduceAdd, Nat.reduceSub, Nat.add_zero, Nat.zero_add, Bool.and_true, Bool.true_and, Bool.and_false, Bool.false_and, Bool.or_false, Bool.not_false, Bool.not_true, ZeB, Option.getD, List.set]
    refine ⟨fun h => ?_, fun h => ?_⟩
    · have hs := Zge h
      unfold PlanV.least at hK
      rw [hs] at hK
      refine Zcs [] rfl hK ?_ ?_ ?_ ?_ ?_
      all_goals (first | rfl | trivial | (dsimp only [ZaV, Zbl, Zbk, Zbm, bdL, Chunk.bd, SVal.bd, tau, Zed, ZbF, SVal.ren, SAddr.ren, ZaR, ZbT, Chunk.ren, Heap.find, Za8, ZbL, Nat.beq, cond_true, cond_false, Heap.push, Heap.drop, Heap.set, Zb4, Zca, List.map]; (repeat' apply And.intro) <;> first | rfl | trivial | decide | omega))
    · have hs := ZfQ h
      refine ⟨.int .i64 _, by simp only [SVal.bd], ⟨rfl, (by first | exact True.intro | ((repeat' apply And.intro) <;> first | exact True.intro | rfl))⟩, ?_⟩
      dsimp only [ZaL, SVal.bd, bdL, Zbm, Chunk.bd, ZaL, SVal.bd, bdL, Zbm, Chunk.bd, ZeV, Zbi, Za3, evQ, ZbR, Opd.ev, evL, ZbL, put, ZdO, ZdW, Zez, kEq, Nat.beq, Nat.ble, Nat.blt, and, or, not, cond_true, cond_false, Heap.push, Heap.find, Heap.set, Heap.drop, Za8, SVal.chunks, ↓ZaP, ↓ZaB, ↓ZaD, ↓Zar, ↓ZaC, ↓ZaN, ↓Zax, ↓Zay, ↓Zan, ↓Zaq, ↓Zai, ↓Zap, ↓Zaj, ↓Zau, ↓Zak, ↓Zat, ↓Zal, ↓ZaQ, ↓ZaE, ↓ZaG, ↓Zas, ↓ZaF, ↓ZaO, ↓Zaz, ↓ZaA, ↓Zao, ZaP, ZaB, ZaD, Zar, ZaC, ZaN, Zax, Zay, Zan, Zaq, Zai, Zap, Zaj, Zau, Zak, Zat, Zal, ZaQ, ZaE, ZaG, Zas, ZaF, ZaO, Zaz, ZaA, Zao, Zaw, Chunk.len, isB, ZbB, Zbn, Res.ev, RV.ev, ZeH, Zbr, ZbI, Zcb, Zcd, Zb6, Zca, Zb4, Zev, Zeo, Zb0, Zef, Zbs, Zbu, Zcc, Zbj, Zbw, ZeJ, Zb3, Za2, kap, Zet, SVal.ren, SAddr.ren, ZaR, ZbT, Chunk.ren, ZaS, Zbp, AOp.looks, ZeG, Zel, ZeF, slo, ZbA, Zbc, Zbz, List.length_cons, List.length_nil, List.cons_append, List.nil_append, List.append_nil, Nat.reduceAdd, Nat.reduceSub, Nat.add_zero, Nat.zero_add, Bool.and_true, Bool.true_and, Bool.and_false, Bool.false_and, Bool.or_false, Bool.not_false, Bool.not_true, ZeB, Option.getD, List.set]
      have ha := PlanV.least_arith hs
      dsimp only at ha
      rw [ha.1, ha.2]
      refine Zcs [] rfl hK ?_ ?_ ?_ ?_ ?_
      all_goals (first | rfl | trivial | (dsimp only [ZaV, Zbl, Zbk, Zbm, bdL, Chunk.bd, SVal.bd, tau, Zed, ZbF, SVal.ren, SAddr.ren, ZaR, ZbT, Chunk.ren, Heap.find, Za8, ZbL, Nat.beq, cond_true, cond_false, Heap.push, Heap.drop, Heap.set, Zb4, Zca, List.map]; (repeat' apply And.intro) <;> first | rfl | trivial | decide | omega))
  · exact h.elim
def ZBl : Con := ⟨55, S57, [], [], []⟩
end Go.Proofs.Ytinjdimejijabaa
