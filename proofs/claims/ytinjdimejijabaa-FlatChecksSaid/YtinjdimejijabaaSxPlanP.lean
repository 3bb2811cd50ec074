/- Two parts of the proof. -/
import Derived.Test.YtinjdimejijabaaSxT15
import Derived.Test.YtinjdimejijabaaSxLem2
import Derived.Test.YtinjdimejijabaaSxG
import Derived.Test.YtinjdimejijabaaSxT17
set_option linter.unusedVariables false
set_option linter.unusedSimpArgs false
namespace Go.Proofs.Ytinjdimejijabaa
open Go.Sx
def S50 : Sx.ZjV := fun args H K => match args with
  | [a] => Zb5 a fun p => noH H (K (.bool p.right) ⟨0, []⟩)
  | _ => False
set_option maxHeartbeats 4000000 in
theorem s50 : Sound Try.prog 29 S50 := by
  have hΓ : Zbg Try.prog (ZbI [ZBl, Zjw]) := Zcn ⟨s58, ZOS, trivial⟩
  refine Zcv hΓ ZAJ ?_
  intro args H K h
  unfold S50 at h
  split at h
  · obtain ⟨cores, banks, pages, lines, arity, minor, major, ns, nw, fs, fw, met, queue, kind, key, tag, rfl, h⟩ := Zct h
    obtain ⟨rfl, hK⟩ := Zd0 h
    refine ⟨rfl, fun w0 fp ρi => ?_⟩
    dsimp only [c50, ZBl, Zjw, ZoL, S57, Zb5, noH, ZaL, SVal.bd, bdL, Zbm, Chunk.bd, ZaL, SVal.bd, bdL, Zbm, Chunk.bd, ZeV, Zbi, Za3, evQ, ZbR, Opd.ev, evL, ZbL, put, ZdO, ZdW, Zez, kEq, Nat.beq, Nat.ble, Nat.blt, and, or, not, cond_true, cond_false, Heap.push, Heap.find, Heap.set, Heap.drop, Za8, SVal.chunks, ↓ZaP, ↓ZaB, ↓ZaD, ↓Zar, ↓ZaC, ↓ZaN, ↓Zax, ↓Zay, ↓Zan, ↓Zaq, ↓Zai, ↓Zap, ↓Zaj, ↓Zau, ↓Zak, ↓Zat, ↓Zal, ↓ZaQ, ↓ZaE, ↓ZaG, ↓Zas, ↓ZaF, ↓ZaO, ↓Zaz, ↓ZaA, ↓Zao, ZaP, ZaB, ZaD, Zar, ZaC, ZaN, Zax, Zay, Zan, Zaq, Zai, Zap, Zaj, Zau, Zak, Zat, Zal, ZaQ, ZaE, ZaG, Zas, ZaF, ZaO, Zaz, ZaA, Zao, Zaw, Chunk.len, isB, ZbB, Zbn, Res.ev, RV.ev, ZeH, Zbr, ZbI, Zcb, Zcd, Zb6, Zca, Zb4, Zev, Zeo, Zb0, Zef, Zbs, Zbu, Zcc, Zbj, Zbw, ZeJ, Zb3, Za2, kap, Zet, SVal.ren, SAddr.ren, ZaR, ZbT, Chunk.ren, ZaS, Zbp, AOp.looks, ZeG, Zel, ZeF, slo, ZbA, Zbc, Zbz, List.length_cons, List.length_nil, List.cons_append, List.nil_append, List.append_nil, Nat.reduceAdd, Nat.reduceSub, Nat.add_zero, Nat.zero_add, Bool.and_true, Bool.true_and, Bool.and_false, Bool.false_and, Bool.or_false, Bool.not_false, Bool.not_true, ZeB, Option.getD, List.set]
    have hR : PlanV.right ⟨cores, banks, pages, lines, arity, minor, major, ns, nw, fs, fw, met, queue, kind, key, tag⟩ = true -> PlanV.shaped ⟨cores, banks, pages, lines, arity, minor, major, ns, nw, fs, fw, met, queue, kind, key, tag⟩ = true /\ (1 <= cores /\ cores <= 4 /\ 1 <= minor /\ minor <= 8 /\ major <= 4294967296 /\ 1 <= ns /\ ns <= 4 /\ 1 <= nw /\ nw <= 4 /\ 1 <= fs /\ fs <= 4 /\ 1 <= fw /\ fw <= 4 /\ 1 <= queue /\ queue <= 4 /\ (kind = 0 ∨ kind = 1) /\ PlanV.least ⟨cores, banks, pages, lines, arity, minor, major, ns, nw, fs, fw, met, queue, kind, key, tag⟩ <= met /\ met <= 64) := by
      intro h
      unfold PlanV.right at h
      rw [Bool.and_eq_true] at h
      exact ⟨h.1, of_decide_eq_true h.2⟩
    refine ZeC hΓ (fun _ _ _ _ h => h) (S := {i : Nat // i <= 6 /\ ∀ j, j < i -> 1 <= [cores, ns, nw, fs, fw, queue].getD j 0 /\ [cores, ns, nw, fs, fw, queue].getD j 0 <= 4})
      (fun i => ([(1, some (.ptr ⟨0,0,0,1⟩ 46)), (3, some (.slice ⟨1,0,0,1⟩ 6 6)), (4, some (.int .i64 i.1))], ⟨2, [(1, some ⟨true, [.ints .i64 6 [cores, ns, nw, fs, fw, queue]], 0⟩), (0, some ⟨true, [.one (.int .i64 cores), .one (.int .i64 banks), .one (.int .i64 pages), .one (.int .i64 lines), .one (.int .i64 arity), .one (.int .i64 minor), .one (.int .u64 major), .one (.int .i64 ns), .one (.int .i64 nw), .one (.int .i64 fs), .one (.int .i64 fw), .one (.int .i64 met), .one (.int .i64 queue), .one (.int .i64 kind), .ints .u8 16 key, .ints .u8 16 tag], 0⟩)]⟩)) (fun i => 6 - i.1) ?_ ?_
    · refine ⟨⟨0, by omega, fun j hj => by omega⟩, tau [], ?_⟩
      refine ZcL [] rfl ?_ ?_ ?_ ?_
      all_goals (first | rfl | trivial | (dsimp only [ZaV, Zbl, Zbk, Zbm, bdL, Chunk.bd, SVal.bd, tau, Zed, ZbF, SVal.ren, SAddr.ren, ZaR, ZbT, Chunk.ren, Heap.find, Za8, ZbL, Nat.beq, cond_true, cond_false, Heap.push, Heap.drop, Heap.set, Zb4, Zca, List.map]; (repeat' apply And.intro) <;> first | rfl | trivial | decide | omega))
    · rintro ⟨i, hi, hj⟩
      dsimp only
      dsimp only [ZBv, ZaL, SVal.bd, bdL, Zbm, Chunk.bd, ZaL, SVal.bd, bdL, Zbm, Chunk.bd, ZeV, Zbi, Za3, evQ, ZbR, Opd.ev, evL, ZbL, put, ZdO, ZdW, Zez, kEq, Nat.beq, Nat.ble, Nat.blt, and, or, not, cond_true, cond_false, Heap.push, Heap.find, Heap.set, Heap.drop, Za8, SVal.chunks, ↓ZaP, ↓ZaB, ↓ZaD, ↓Zar, ↓ZaC, ↓ZaN, ↓Zax, ↓Zay, ↓Zan, ↓Zaq, ↓Zai, ↓Zap, ↓Zaj, ↓Zau, ↓Zak, ↓Zat, ↓Zal, ↓ZaQ, ↓ZaE, ↓ZaG, ↓Zas, ↓ZaF, ↓ZaO, ↓Zaz, ↓ZaA, ↓Zao, ZaP, ZaB, ZaD, Zar, ZaC, ZaN, Zax, Zay, Zan, Zaq, Zai, Zap, Zaj, Zau, Zak, Zat, Zal, ZaQ, ZaE, ZaG, Zas, ZaF, ZaO, Zaz, ZaA, Zao, Zaw, Chunk.len, isB, ZbB, Zbn, Res.ev, RV.ev, ZeH, Zbr, ZbI, Zcb, Zcd, Zb6, Zca, Zb4, Zev, Zeo, Zb0, Zef, Zbs, Zbu, Zcc, Zbj, Zbw, ZeJ, Zb3, Za2, kap, Zet, SVal.ren, SAddr.ren, ZaR, ZbT, Chunk.ren, ZaS, Zbp, AOp.looks, ZeG, Zel, ZeF, slo, ZbA, Zbc, Zbz, List.length_cons, List.length_nil, List.cons_append, List.nil_append, List.append_nil, Nat.reduceAdd, Nat.reduceSub, Nat.add_zero, Nat.zero_add, Bool.and_true, Bool.true_and, Bool.and_false, Bool.false_and, Bool.or_false, Bool.not_false, Bool.not_true, ZeB, Option.getD, List.set]
      simp only [Int.toNat_natCast, Nat.zero_add]
      refine ⟨fun h => ?_, fun h => ?_⟩
      · have hlt : (i : Int) < 6 := of_decide_eq_true h
        have e1 : IntKind.i64.wrap (↑i + 1) = ((i + 1 : Nat) : Int) := wrap_i64 (by omega) (by omega)
        simp only [e1]
        generalize hx : [cores, ns, nw, fs, fw, queue].getD i 0 = x
        refine ⟨(by first | omega | exact True.intro | (simp; done)), (by first | omega | exact True.intro | (simp; done)), (by first | omega | exact True.intro | (simp; done)), decide (x < 1) || decide (4 < x), fun h => ⟨(by first | omega | exact True.intro | (simp; done)), (by first | omega | exact True.intro | (simp; done)), (by first | omega | exact True.intro | (simp; done)), (by first | exact True.intro | ((repeat' apply And.intro) <;> first | exact True.intro | rfl)), by rw [h]; rfl⟩, fun h => by rw [h]; rfl, fun h => ?_, fun h => ?_⟩
        · simp only [Bool.or_eq_true, decide_eq_true_eq] at h
          have hbad : PlanV.right ⟨cores, banks, pages, lines, arity, minor, major, ns, nw, fs, fw, met, queue, kind, key, tag⟩ = false := by
            apply Bool.eq_false_iff.2
            intro hr
            have := (hR hr).2
            have h6 : i = 0 ∨ i = 1 ∨ i = 2 ∨ i = 3 ∨ i = 4 ∨ i = 5 := by omega
            rcases h6 with rfl | rfl | rfl | rfl | rfl | rfl <;> simp only [List.getD_cons_zero, List.getD_cons_succ] at hx <;> omega
          rw [hbad] at hK
          refine Zcs [] rfl hK ?_ ?_ ?_ ?_ ?_
          all_goals (first | rfl | trivial | (dsimp only [ZaV, Zbl, Zbk, Zbm, bdL, Chunk.bd, SVal.bd, tau, Zed, ZbF, SVal.ren, SAddr.ren, ZaR, ZbT, Chunk.ren, Heap.find, Za8, ZbL, Nat.beq, cond_true, cond_false, Heap.push, Heap.drop, Heap.set, Zb4, Zca, List.map]; (repeat' apply And.intro) <;> first | rfl | trivial | decide | omega))
        · simp only [Bool.or_eq_false_iff, decide_eq_false_iff_not] at h
          refine ⟨⟨i + 1, by omega, fun j hj1 => ?_⟩, tau [], by dsimp only; omega, ?_⟩
          · by_cases hji : j = i
            · subst hji
              rw [hx]
              omega
            · exact hj j (by omega)
          · refine ZcL [] rfl ?_ ?_ ?_ ?_
            all_goals (first | rfl | trivial | (dsimp only [ZaV, Zbl, Zbk, Zbm, bdL, Chunk.bd, SVal.bd, tau, Zed, ZbF, SVal.ren, SAddr.ren, ZaR, ZbT, Chunk.ren, Heap.find, Za8, ZbL, Nat.beq, cond_true, cond_false, Heap.push, Heap.drop, Heap.set, Zb4, Zca, List.map]; (repeat' apply And.intro) <;> first | rfl | trivial | decide | omega))
      · have hi6 : i = 6 := by have := of_decide_eq_false h; omega
        subst hi6
        have k0 := hj 0 (by omega)
        have k1 := hj 1 (by omega)
        have k2 := hj 2 (by omega)
        have k3 := hj 3 (by omega)
        have k4 := hj 4 (by omega)
        have k5 := hj 5 (by omega)
        simp only [List.getD_cons_zero, List.getD_cons_succ] at k0 k1 k2 k3 k4 k5
        clear hj
        refine ⟨.bool _, by simp only [SVal.bd], ⟨rfl, (by first | exact True.intro | ((repeat' apply And.intro) <;> first | exact True.intro | rfl))⟩, ?_⟩
        dsimp only [S57, Zb5, noH, ZaL, SVal.bd, bdL, Zbm, Chunk.bd, ZaL, SVal.bd, bdL, Zbm, Chunk.bd, ZeV, Zbi, Za3, evQ, ZbR, Opd.ev, evL, ZbL, put, ZdO, ZdW, Zez, kEq, Nat.beq, Nat.ble, Nat.blt, and, or, not, cond_true, cond_false, Heap.push, Heap.find, Heap.set, Heap.drop, Za8, SVal.chunks, ↓ZaP, ↓ZaB, ↓ZaD, ↓Zar, ↓ZaC, ↓ZaN, ↓Zax, ↓Zay, ↓Zan, ↓Zaq, ↓Zai, ↓Zap, ↓Zaj, ↓Zau, ↓Zak, ↓Zat, ↓Zal, ↓ZaQ, ↓ZaE, ↓ZaG, ↓Zas, ↓ZaF, ↓ZaO, ↓Zaz, ↓ZaA, ↓Zao, ZaP, ZaB, ZaD, Zar, ZaC, ZaN, Zax, Zay, Zan, Zaq, Zai, Zap, Zaj, Zau, Zak, Zat, Zal, ZaQ, ZaE, ZaG, Zas, ZaF, ZaO, Zaz, ZaA, Zao, Zaw, Chunk.len, isB, ZbB, Zbn, Res.ev, RV.ev, ZeH, Zbr, ZbI, Zcb, Zcd, Zb6, Zca, Zb4, Zev, Zeo, Zb0, Zef, Zbs, Zbu, Zcc, Zbj, Zbw, ZeJ, Zb3, Za2, kap, Zet, SVal.ren, SAddr.ren, ZaR, ZbT, Chunk.ren, ZaS, Zbp, AOp.looks, ZeG, Zel, ZeF, slo, ZbA, Zbc, Zbz, List.length_cons, List.length_nil, List.cons_append, List.nil_append, List.append_nil, Nat.reduceAdd, Nat.reduceSub, Nat.add_zero, Nat.zero_add, Bool.and_true, Bool.true_and, Bool.and_false, Bool.false_and, Bool.or_false, Bool.not_false, Bool.not_true, ZeB, Option.getD, List.set]
        refine Zzz (Zzz (Zzz ?_))
        refine Zzy (ZOI (decide (PlanV.least ⟨cores, banks, pages, lines, arity, minor, major, ns, nw, fs, fw, met, queue, kind, key, tag⟩ <= met)) (fun q hq => ⟨.int .i64 _, by simp only [SVal.bd], ⟨rfl, (by first | exact True.intro | ((repeat' apply And.intro) <;> first | exact True.intro | rfl))⟩, ?_⟩) (Zzz (Zw1 [] rfl hK ?_ ?_ ?_ ?_)))
        · dsimp only [ZaL, SVal.bd, bdL, Zbm, Chunk.bd, ZaL, SVal.bd, bdL, Zbm, Chunk.bd, ZeV, Zbi, Za3, evQ, ZbR, Opd.ev, evL, ZbL, put, ZdO, ZdW, Zez, kEq, Nat.beq, Nat.ble, Nat.blt, and, or, not, cond_true, cond_false, Heap.push, Heap.find, Heap.set, Heap.drop, Za8, SVal.chunks, ↓ZaP, ↓ZaB, ↓ZaD, ↓Zar, ↓ZaC, ↓ZaN, ↓Zax, ↓Zay, ↓Zan, ↓Zaq, ↓Zai, ↓Zap, ↓Zaj, ↓Zau, ↓Zak, ↓Zat, ↓Zal, ↓ZaQ, ↓ZaE, ↓ZaG, ↓Zas, ↓ZaF, ↓ZaO, ↓Zaz, ↓ZaA, ↓Zao, ZaP, ZaB, ZaD, Zar, ZaC, ZaN, Zax, Zay, Zan, Zaq, Zai, Zap, Zaj, Zau, Zak, Zat, Zal, ZaQ, ZaE, ZaG, Zas, ZaF, ZaO, Zaz, ZaA, Zao, Zaw, Chunk.len, isB, ZbB, Zbn, Res.ev, RV.ev, ZeH, Zbr, ZbI, Zcb, Zcd, Zb6, Zca, Zb4, Zev, Zeo, Zb0, Zef, Zbs, Zbu, Zcc, Zbj, Zbw, ZeJ, Zb3, Za2, kap, Zet, SVal.ren, SAddr.ren, ZaR, ZbT, Chunk.ren, ZaS, Zbp, AOp.looks, ZeG, Zel, ZeF, slo, ZbA, Zbc, Zbz, List.length_cons, List.length_nil, List.cons_append, List.nil_append, List.append_nil, Nat.reduceAdd, Nat.reduceSub, Nat.add_zero, Nat.zero_add, Bool.and_true, Bool.true_and, Bool.and_false, Bool.false_and, Bool.or_false, Bool.not_false, Bool.not_true, ZeB, Option.getD, List.set]
          exact hq
        · unfold PlanV.right
          generalize PlanV.shaped ⟨cores, banks, pages, lines, arity, minor, major, ns, nw, fs, fw, met, queue, kind, key, tag⟩ = sh
          cases sh
          · simp
          · rw [Bool.eq_iff_iff]
            simp only [decide_eq_true_eq, Bool.and_eq_true, Bool.or_eq_true, beq_iff_eq, true_and]
            omega
        all_goals (first | rfl | trivial | (dsimp only [ZaV, Zbl, Zbk, Zbm, bdL, Chunk.bd, SVal.bd, tau, Zed, ZbF, SVal.ren, SAddr.ren, ZaR, ZbT, Chunk.ren, Heap.find, Za8, ZbL, Nat.beq, cond_true, cond_false, Heap.push, Heap.drop, Heap.set, Zb4, Zca, List.map]; (repeat' apply And.intro) <;> first | rfl | trivial | decide | omega))
  · exact h.elim
end Go.Proofs.Ytinjdimejijabaa

namespace Go.Proofs.Ytinjdimejijabaa
open Go.Sx
end Go.Proofs.Ytinjdimejijabaa

namespace Go.Proofs.Ytinjdimejijabaa
open Go.Sx
def ZsK : ZeX := fun args => match args with
  | [.agg [.one (.int .i64 p_0), .one (.int .i64 p_1), .one (.int .i64 p_2), .one (.int .i64 p_3), .one (.int .i64 p_4), .one (.int .i64 p_5), .one (.int .u64 p_6), .one (.int .i64 p_7), .one (.int .i64 p_8), .one (.int .i64 p_9), .one (.int .i64 p_10), .one (.int .i64 p_11), .one (.int .i64 p_12), .one (.int .i64 p_13), .ints .u8 p_14_n p_14, .ints .u8 p_15_n p_15]] => bif Nat.beq p_14_n 16 && Nat.beq p_15_n 16 then some (True, .int .i64 (bif PlanV.right (PlanV.mk p_0 p_1 p_2 p_3 p_4 p_5 p_6 p_7 p_8 p_9 p_10 p_11 p_12 p_13 p_14 p_15) then 0 else 4 : Int)) else none
  | _ => none
def ZmX : PCon := ⟨56, ZsK⟩
theorem ZqH : Sound Try.prog 56 (ZeA ZsK) := by
  intro args H K h
  obtain ⟨pre, v, hP, hpre, rfl, hK⟩ := ZbM h
  refine s49 args ⟨0, []⟩ K ?_
  unfold ZsK at hP
  split at hP
  · obtain ⟨hb, hP⟩ := ZaM hP
    simp only [Bool.and_eq_true] at hb
    obtain ⟨h0, h1⟩ := hb
    obtain rfl := Nat.eq_of_beq_eq_true h0
    obtain rfl := Nat.eq_of_beq_eq_true h1
    cases hP
    exact hK
  · cases hP
def ZG4 : ZeX := fun args => match args with
  | [.agg [.one (.int .i64 p_0), .one (.int .i64 p_1), .one (.int .i64 p_2), .one (.int .i64 p_3), .one (.int .i64 p_4), .one (.int .i64 p_5), .one (.int .u64 p_6), .one (.int .i64 p_7), .one (.int .i64 p_8), .one (.int .i64 p_9), .one (.int .i64 p_10), .one (.int .i64 p_11), .one (.int .i64 p_12), .one (.int .i64 p_13), .ints .u8 p_14_n p_14, .ints .u8 p_15_n p_15]] => bif Nat.beq p_14_n 16 && Nat.beq p_15_n 16 then some (True, .int .i64 (PlanV.all (PlanV.mk p_0 p_1 p_2 p_3 p_4 p_5 p_6 p_7 p_8 p_9 p_10 p_11 p_12 p_13 p_14 p_15))) else none
  | _ => none
def ZA3 : PCon := ⟨57, ZG4⟩
theorem ZHB : Sound Try.prog 57 (ZeA ZG4) := by
  intro args H K h
  obtain ⟨pre, v, hP, hpre, rfl, hK⟩ := ZbM h
  refine s55 args ⟨0, []⟩ K ?_
  unfold ZG4 at hP
  split at hP
  · obtain ⟨hb, hP⟩ := ZaM hP
    simp only [Bool.and_eq_true] at hb
    obtain ⟨h0, h1⟩ := hb
    obtain rfl := Nat.eq_of_beq_eq_true h0
    obtain rfl := Nat.eq_of_beq_eq_true h1
    cases hP
    exact hK
  · cases hP
def ZsH : ZeX := fun args => match args with
  | [.agg [.one (.int .i64 p_0), .one (.int .i64 p_1), .one (.int .i64 p_2), .one (.int .i64 p_3), .one (.int .i64 p_4), .one (.int .i64 p_5), .one (.int .u64 p_6), .one (.int .i64 p_7), .one (.int .i64 p_8), .one (.int .i64 p_9), .one (.int .i64 p_10), .one (.int .i64 p_11), .one (.int .i64 p_12), .one (.int .i64 p_13), .ints .u8 p_14_n p_14, .ints .u8 p_15_n p_15]] => bif Nat.beq p_14_n 16 && Nat.beq p_15_n 16 then some (True, .bool (PlanV.right (PlanV.mk p_0 p_1 p_2 p_3 p_4 p_5 p_6 p_7 p_8 p_9 p_10 p_11 p_12 p_13 p_14 p_15))) else none
  | _ => none
def Zkd : PCon := ⟨29, ZsH⟩
theorem ZmQ : Sound Try.prog 29 (ZeA ZsH) := by
  intro args H K h
  obtain ⟨pre, v, hP, hpre, rfl, hK⟩ := ZbM h
  refine s50 args ⟨0, []⟩ K ?_
  unfold ZsH at hP
  split at hP
  · obtain ⟨hb, hP⟩ := ZaM hP
    simp only [Bool.and_eq_true] at hb
    obtain ⟨h0, h1⟩ := hb
    obtain rfl := Nat.eq_of_beq_eq_true h0
    obtain rfl := Nat.eq_of_beq_eq_true h1
    cases hP
    exact hK
  · cases hP
def ZoN : ZeX := fun args => match args with
  | [.agg [.one (.int .i64 p_0), .one (.int .i64 p_1), .one (.int .i64 p_2), .one (.int .i64 p_3), .one (.int .i64 p_4), .one (.int .i64 p_5), .one (.int .u64 p_6), .one (.int .i64 p_7), .one (.int .i64 p_8), .one (.int .i64 p_9), .one (.int .i64 p_10), .one (.int .i64 p_11), .one (.int .i64 p_12), .one (.int .i64 p_13), .ints .u8 p_14_n p_14, .ints .u8 p_15_n p_15]] => bif Nat.beq p_14_n 16 && Nat.beq p_15_n 16 then some (True, .int .i64 ((PlanV.levels (PlanV.mk p_0 p_1 p_2 p_3 p_4 p_5 p_6 p_7 p_8 p_9 p_10 p_11 p_12 p_13 p_14 p_15) : Nat) : Int)) else none
  | _ => none
def Zw9 : PCon := ⟨71, ZoN⟩
theorem Zzb : Sound Try.prog 71 (ZeA ZoN) := by
  intro args H K h
  obtain ⟨pre, v, hP, hpre, rfl, hK⟩ := ZbM h
  refine s52 args ⟨0, []⟩ K ?_
  unfold ZoN at hP
  split at hP
  · obtain ⟨hb, hP⟩ := ZaM hP
    simp only [Bool.and_eq_true] at hb
    obtain ⟨h0, h1⟩ := hb
    obtain rfl := Nat.eq_of_beq_eq_true h0
    obtain rfl := Nat.eq_of_beq_eq_true h1
    cases hP
    exact hK
  · cases hP
def ZsG : ZeX := fun args => match args with
  | [.agg [.one (.int .i64 p_0), .one (.int .i64 p_1), .one (.int .i64 p_2), .one (.int .i64 p_3), .one (.int .i64 p_4), .one (.int .i64 p_5), .one (.int .u64 p_6), .one (.int .i64 p_7), .one (.int .i64 p_8), .one (.int .i64 p_9), .one (.int .i64 p_10), .one (.int .i64 p_11), .one (.int .i64 p_12), .one (.int .i64 p_13), .ints .u8 p_14_n p_14, .ints .u8 p_15_n p_15], .int .i64 l] => bif Nat.beq p_14_n 16 && Nat.beq p_15_n 16 then some (True, .int .i64 (PlanV.width (PlanV.mk p_0 p_1 p_2 p_3 p_4 p_5 p_6 p_7 p_8 p_9 p_10 p_11 p_12 p_13 p_14 p_15) l)) else none
  | _ => none
def Zz8 : PCon := ⟨84, ZsG⟩
theorem ZBU : Sound Try.prog 84 (ZeA ZsG) := by
  intro args H K h
  obtain ⟨pre, v, hP, hpre, rfl, hK⟩ := ZbM h
  refine s54 args ⟨0, []⟩ K ?_
  unfold ZsG at hP
  split at hP
  · obtain ⟨hb, hP⟩ := ZaM hP
    simp only [Bool.and_eq_true] at hb
    obtain ⟨h0, h1⟩ := hb
    obtain rfl := Nat.eq_of_beq_eq_true h0
    obtain rfl := Nat.eq_of_beq_eq_true h1
    cases hP
    exact hK
  · cases hP
def ZsJ : ZeX := fun args => match args with
  | [.agg [.one (.int .i64 p_0), .one (.int .i64 p_1), .one (.int .i64 p_2), .one (.int .i64 p_3), .one (.int .i64 p_4), .one (.int .i64 p_5), .one (.int .u64 p_6), .one (.int .i64 p_7), .one (.int .i64 p_8), .one (.int .i64 p_9), .one (.int .i64 p_10), .one (.int .i64 p_11), .one (.int .i64 p_12), .one (.int .i64 p_13), .ints .u8 p_14_n p_14, .ints .u8 p_15_n p_15]] => bif Nat.beq p_14_n 16 && Nat.beq p_15_n 16 then some (True, .int .i64 (PlanV.least (PlanV.mk p_0 p_1 p_2 p_3 p_4 p_5 p_6 p_7 p_8 p_9 p_10 p_11 p_12 p_13 p_14 p_15))) else none
  | _ => none
def ZAa : PCon := ⟨55, ZsJ⟩
theorem ZBW : Sound Try.prog 55 (ZeA ZsJ) := by
  intro args H K h
  obtain ⟨pre, v, hP, hpre, rfl, hK⟩ := ZbM h
  refine s58 args ⟨0, []⟩ K ?_
  unfold ZsJ at hP
  split at hP
  · obtain ⟨hb, hP⟩ := ZaM hP
    simp only [Bool.and_eq_true] at hb
    obtain ⟨h0, h1⟩ := hb
    obtain rfl := Nat.eq_of_beq_eq_true h0
    obtain rfl := Nat.eq_of_beq_eq_true h1
    cases hP
    exact hK
  · cases hP
end Go.Proofs.Ytinjdimejijabaa
