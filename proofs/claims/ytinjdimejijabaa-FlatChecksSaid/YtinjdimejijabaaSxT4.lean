/- Two parts of the proof. -/
import Derived.Test.YtinjdimejijabaaSxT2
set_option linter.unusedVariables false
set_option linter.unusedSimpArgs false
namespace Go.Proofs.Ytinjdimejijabaa
open Go.Sx
def S44 : Sx.ZjV := fun args H K => ∃ w m c xs, args = [.slice ⟨0,0,0,1⟩ m c] /\ H = ⟨1,[(0,some ⟨w,[.ints .u8 m xs],0⟩)]⟩ /\ xs.length = m /\ m <= c /\ m <= 1000000000 /\ Byt xs /\
  K (.int .u64 (Zcz (xs.take 8))) ⟨1,[(0,some ⟨w,[.ints .u8 m xs],0⟩)]⟩
theorem s44 : Sound Try.prog 76 S44 := by
  have hΓ : Zbg Try.prog (ZbI []) := Zcn trivial
  refine Zcv hΓ ZAL ?_
  rintro _ _ K ⟨w, m, c, xs, rfl, rfl, hl, hc, hm, hb, hK⟩
  refine ⟨rfl, fun w0 fp ρi => ?_⟩
  dsimp only [c44, ZaL, SVal.bd, bdL, Zbm, Chunk.bd, ZaL, SVal.bd, bdL, Zbm, Chunk.bd, ZeV, Zbi, Za3, evQ, ZbR, Opd.ev, evL, ZbL, put, ZdO, ZdW, Zez, kEq, Nat.beq, Nat.ble, Nat.blt, and, or, not, cond_true, cond_false, Heap.push, Heap.find, Heap.set, Heap.drop, Za8, SVal.chunks, rdC, rdA, wrC, wrA, Zee, ZeN, Zaw, Chunk.len, isB, ZbB, Zbn, Res.ev, RV.ev, ZeH, Zbr, ZbI, Zcb, Zcd, Zb6, Zca, Zb4, Zev, Zeo, Zb0, Zef, Zbs, Zbu, Zcc, Zbj, Zbw, ZeJ, Zb3, Za2, kap, Zet, SVal.ren, SAddr.ren, ZaR, ZbT, Chunk.ren, ZaS, Zbp, AOp.looks, ZeG, Zel, ZeF, slo, ZbA, Zbc, Zbz, List.length_cons, List.length_nil, List.cons_append, List.nil_append, List.append_nil, Nat.reduceAdd, Nat.reduceSub, Nat.add_zero, Nat.zero_add, Bool.and_true, Bool.true_and, Bool.and_false, Bool.false_and, Bool.or_false, Bool.not_false, Bool.not_true, ZeB, Option.getD, List.set]
  have e0 : (if (8 : Int) < (m : Int) then (8 : Int) else m) = ((min m 8 : Nat) : Int) := by omega
  simp only [e0, Int.toNat_natCast, Nat.sub_zero]
  refine ⟨by omega, by omega, ?_⟩
  refine ZeC hΓ (fun _ _ _ _ h => h) (S := {i : Nat // i <= min m 8})
      (fun i => ([(9, some (.slice ⟨0,0,0,1⟩ (min m 8) c)), (10, some (.int .i64 (min m 8 : Nat))), (2, some (.int .u64 (Zcz (xs.take i.1)))), (11, some (.int .i64 i.1))], ⟨1,[(0,some ⟨w,[.ints .u8 m xs],0⟩)]⟩)) (fun i => min m 8 - i.1) ?_ ?_
  · refine ⟨⟨0, Nat.zero_le _⟩, tau [], ?_⟩
    refine ZcL [] rfl ?_ ?_ ?_ ?_
    all_goals (first | rfl | trivial | (dsimp only [ZaV, Zbl, Zbk, Zbm, bdL, Chunk.bd, SVal.bd, tau, Zed, ZbF, SVal.ren, SAddr.ren, ZaR, ZbT, Chunk.ren, Heap.find, Za8, ZbL, Nat.beq, cond_true, cond_false, Heap.push, Heap.drop, Heap.set, Zb4, Zca, List.map]; (repeat' apply And.intro) <;> first | rfl | trivial | decide | omega))
  · rintro ⟨i, hi⟩
    dsimp only
    dsimp only [ZBx, ZaL, SVal.bd, bdL, Zbm, Chunk.bd, ZaL, SVal.bd, bdL, Zbm, Chunk.bd, ZeV, Zbi, Za3, evQ, ZbR, Opd.ev, evL, ZbL, put, ZdO, ZdW, Zez, kEq, Nat.beq, Nat.ble, Nat.blt, and, or, not, cond_true, cond_false, Heap.push, Heap.find, Heap.set, Heap.drop, Za8, SVal.chunks, rdC, rdA, wrC, wrA, Zee, ZeN, Zaw, Chunk.len, isB, ZbB, Zbn, Res.ev, RV.ev, ZeH, Zbr, ZbI, Zcb, Zcd, Zb6, Zca, Zb4, Zev, Zeo, Zb0, Zef, Zbs, Zbu, Zcc, Zbj, Zbw, ZeJ, Zb3, Za2, kap, Zet, SVal.ren, SAddr.ren, ZaR, ZbT, Chunk.ren, ZaS, Zbp, AOp.looks, ZeG, Zel, ZeF, slo, ZbA, Zbc, Zbz, List.length_cons, List.length_nil, List.cons_append, List.nil_append, List.append_nil, Nat.reduceAdd, Nat.reduceSub, Nat.add_zero, Nat.zero_add, Bool.and_true, Bool.true_and, Bool.and_false, Bool.false_and, Bool.or_false, Bool.not_false, Bool.not_true, ZeB, Option.getD, List.set]
    refine ⟨fun h => ?_, fun h => ?_⟩
    · have hlt : (i : Int) < (min m 8 : Nat) := of_decide_eq_true h
      have hx := hb.getD i
      have e1 : IntKind.i64.wrap (↑i + 1) = ((i + 1 : Nat) : Int) := wrap_i64 (by omega) (by omega)
      have e2 : IntKind.i64.wrap (8 * ↑i) = ((8 * i : Nat) : Int) := wrap_i64 (by omega) (by omega)
      have e3 : IntKind.u64.wrap (xs.getD i 0) = xs.getD i 0 := by rw [ZdH]; omega
      have hr := Zka (hb.take i)
      rw [List.length_take, Nat.min_eq_left (by omega)] at hr
      have e4 : ior .u64 (Zcz (xs.take i)) (ZAn .u64 (xs.getD i 0) ((8 * i : Nat) : Int)) = Zcz (xs.take (i + 1)) := by
        have hp : (256 : Int) ^ i = 2 ^ (8 * i) := by rw [Int.pow_mul]; rfl
        have hle : xs.getD i 0 * 2 ^ (8 * i) + 2 ^ (8 * i) <= 18446744073709551616 := by
          have h1 : xs.getD i 0 * 2 ^ (8 * i) + 2 ^ (8 * i) = (xs.getD i 0 + 1) * 2 ^ (8 * i) := by rw [Int.add_mul, Int.one_mul]
          have h2 : (xs.getD i 0 + 1) * 2 ^ (8 * i) <= 256 * 2 ^ (8 * i) := Int.mul_le_mul_of_nonneg_right (by omega) (Int.pow_nonneg (by omega))
          have h3 : (256 : Int) * 2 ^ (8 * i) = 2 ^ (8 * (i + 1)) := by rw [Nat.mul_add, Int.pow_add]; omega
          have h4 : (2 : Int) ^ (8 * (i + 1)) <= 2 ^ 64 := by have := Nat.pow_le_pow_right (n := 2) (by omega) (show 8 * (i + 1) <= 64 by omega); exact_mod_cast this
          omega
        rw [hp] at hr
        have h0 : 0 <= xs.getD i 0 * 2 ^ (8 * i) := Int.mul_nonneg hx.1 (Int.pow_nonneg (by omega))
        rw [ZfC (by omega), Zje, List.length_take, Nat.min_eq_left (by omega), Zt0 (by omega), Int.toNat_natCast, Int.emod_eq_of_lt h0 (by omega), hp]
        exact ZAp hr.1 hr.2 hx.1 rfl (by omega)
      refine ⟨by omega, hlt, by omega, ?_⟩
      simp only [Int.toNat_natCast, Nat.zero_add, e1, e2, e3, e4]
      refine ⟨by omega, ⟨i + 1, by omega⟩, tau [], by dsimp only; omega, ?_⟩
      refine ZcL [] rfl ?_ ?_ ?_ ?_
      all_goals (first | rfl | trivial | (dsimp only [ZaV, Zbl, Zbk, Zbm, bdL, Chunk.bd, SVal.bd, tau, Zed, ZbF, SVal.ren, SAddr.ren, ZaR, ZbT, Chunk.ren, Heap.find, Za8, ZbL, Nat.beq, cond_true, cond_false, Heap.push, Heap.drop, Heap.set, Zb4, Zca, List.map]; (repeat' apply And.intro) <;> first | rfl | trivial | decide | omega))
    · have hge : ¬ (i : Int) < (min m 8 : Nat) := of_decide_eq_false h
      have hxs : xs.take i = xs.take 8 := by
        have : i = min m 8 := by omega
        subst this
        rcases Nat.le_total m 8 with h | h
        · rw [Nat.min_eq_left h, List.take_of_length_le (by omega), List.take_of_length_le (by omega)]
        · rw [Nat.min_eq_right h]
      rw [<- hxs] at hK
      refine Zcs [] rfl hK ?_ ?_ ?_ ?_ ?_
      all_goals (first | rfl | trivial | (dsimp only [ZaV, Zbl, Zbk, Zbm, bdL, Chunk.bd, SVal.bd, tau, Zed, ZbF, SVal.ren, SAddr.ren, ZaR, ZbT, Chunk.ren, Heap.find, Za8, ZbL, Nat.beq, cond_true, cond_false, Heap.push, Heap.drop, Heap.set, Zb4, Zca, List.map]; (repeat' apply And.intro) <;> first | rfl | trivial | decide | omega))
end Go.Proofs.Ytinjdimejijabaa

namespace Go.Proofs.Ytinjdimejijabaa
open Go.Sx
theorem s43 : Sound Try.prog 81 S41 := by
  have hΓ : Zbg Try.prog (ZbI []) := Zcn trivial
  refine Zcv hΓ ZAM ?_
  rintro _ _ K ⟨w, m, c, xs, v, n, rfl, rfl, hl, hn, hv, hv', hK⟩
  refine ⟨rfl, fun w0 fp ρi => ?_⟩
  dsimp only [c43, ZaL, SVal.bd, bdL, Zbm, Chunk.bd, ZaL, SVal.bd, bdL, Zbm, Chunk.bd, ZeV, Zbi, Za3, evQ, ZbR, Opd.ev, evL, ZbL, put, ZdO, ZdW, Zez, kEq, Nat.beq, Nat.ble, Nat.blt, and, or, not, cond_true, cond_false, Heap.push, Heap.find, Heap.set, Heap.drop, Za8, SVal.chunks, rdC, rdA, wrC, wrA, Zee, ZeN, Zaw, Chunk.len, isB, ZbB, Zbn, Res.ev, RV.ev, ZeH, Zbr, ZbI, Zcb, Zcd, Zb6, Zca, Zb4, Zev, Zeo, Zb0, Zef, Zbs, Zbu, Zcc, Zbj, Zbw, ZeJ, Zb3, Za2, kap, Zet, SVal.ren, SAddr.ren, ZaR, ZbT, Chunk.ren, ZaS, Zbp, AOp.looks, ZeG, Zel, ZeF, slo, ZbA, Zbc, Zbz, List.length_cons, List.length_nil, List.cons_append, List.nil_append, List.append_nil, Nat.reduceAdd, Nat.reduceSub, Nat.add_zero, Nat.zero_add, Bool.and_true, Bool.true_and, Bool.and_false, Bool.false_and, Bool.or_false, Bool.not_false, Bool.not_true, ZeB, Option.getD, List.set]
  refine ⟨Nat.le_of_eq (Nat.zero_add m), rfl, rfl, rfl, by omega, fun c' hc => ?_⟩
  simp only [List.drop_zero, List.take_of_length_le (Nat.le_of_eq hl), Nat.zero_add] at hc ⊢
  refine ZeC hΓ (fun _ _ _ _ h => h) (S := {p : Nat × Nat // m + p.1 <= p.2 /\ p.1 <= (min n 64).toNat})
    (fun p => ([(7, some (.slice ⟨1,0,0,1⟩ (m + p.1.1) p.1.2)), (1, some (.int .u64 v)), (2, some (.int .i64 n)), (8, some (.int .i64 p.1.1))],
      ⟨2,[(1,some ⟨true,[.ints .u8 (m + p.1.1) (xs ++ ZdN v p.1.1)],p.1.2-(m + p.1.1)⟩),(0,some ⟨w,[.ints .u8 m xs],0⟩)]⟩)) (fun p => (min n 64).toNat - p.1.1) ?_ ?_
  · refine ⟨⟨(0, c'), by simpa using hc, Nat.zero_le _⟩, tau [(1, 2)], ?_⟩
    simp only [ZdN, List.append_nil, Nat.add_zero]
    refine ZcL [(1, 2)] rfl ?_ ?_ ?_ ?_
    all_goals (first | rfl | trivial | (dsimp only [ZaV, Zbl, Zbk, Zbm, bdL, Chunk.bd, SVal.bd, tau, Zed, ZbF, SVal.ren, SAddr.ren, ZaR, ZbT, Chunk.ren, Heap.find, Za8, ZbL, Nat.beq, cond_true, cond_false, Heap.push, Heap.drop, Heap.set, Zb4, Zca, List.map]; (repeat' apply And.intro) <;> first | rfl | trivial | decide | omega))
  · rintro ⟨⟨i, c1⟩, hc1, hi⟩
    dsimp only at hc1 hi
    dsimp only [ZBy, ZaL, SVal.bd, bdL, Zbm, Chunk.bd, ZaL, SVal.bd, bdL, Zbm, Chunk.bd, ZeV, Zbi, Za3, evQ, ZbR, Opd.ev, evL, ZbL, put, ZdO, ZdW, Zez, kEq, Nat.beq, Nat.ble, Nat.blt, and, or, not, cond_true, cond_false, Heap.push, Heap.find, Heap.set, Heap.drop, Za8, SVal.chunks, rdC, rdA, wrC, wrA, Zee, ZeN, Zaw, Chunk.len, isB, ZbB, Zbn, Res.ev, RV.ev, ZeH, Zbr, ZbI, Zcb, Zcd, Zb6, Zca, Zb4, Zev, Zeo, Zb0, Zef, Zbs, Zbu, Zcc, Zbj, Zbw, ZeJ, Zb3, Za2, kap, Zet, SVal.ren, SAddr.ren, ZaR, ZbT, Chunk.ren, ZaS, Zbp, AOp.looks, ZeG, Zel, ZeF, slo, ZbA, Zbc, Zbz, List.length_cons, List.length_nil, List.cons_append, List.nil_append, List.append_nil, Nat.reduceAdd, Nat.reduceSub, Nat.add_zero, Nat.zero_add, Bool.and_true, Bool.true_and, Bool.and_false, Bool.false_and, Bool.or_false, Bool.not_false, Bool.not_true, ZeB, Option.getD, List.set]
    refine ⟨decide ((i : Int) < min n 64), fun h => ?_, fun h => ?_, fun h => ?_, fun h => ?_⟩
    · have : (i : Int) < n := of_decide_eq_true h
      refine ⟨⟨rfl, rfl, trivial⟩, ?_⟩
      rw [decide_eq_decide]; omega
    · have : ¬ (i : Int) < n := of_decide_eq_false h
      symm; rw [decide_eq_false_iff_not]; omega
    · have hlt : (i : Int) < min n 64 := of_decide_eq_true h
      have e1 : IntKind.i64.wrap (↑i + 1) = ((i + 1 : Nat) : Int) := wrap_i64 (by omega) (by omega)
      have e2 : IntKind.i64.wrap (8 * ↑i) = ((8 * i : Nat) : Int) := wrap_i64 (by omega) (by omega)
      refine ⟨fun h8 => ?_, fun h8 => ?_⟩
      · have h8 : (i : Int) < 8 := of_decide_eq_true h8
        have e3 : ZG9 IntKind.u64 v ((8 * i : Nat) : Int) = v / 256 ^ i := by
          rw [ZxO _ _ _ (by simp only [Int.toNat_natCast]; show 8 * i <= 64; omega), Int.toNat_natCast, Int.pow_mul]; rfl
        simp only [e1, e2, e3, List.drop_zero, wrap_u8]
        refine ⟨by omega, Nat.le_refl _, trivial, by simp [ZbU, hl], by omega, by omega, fun c2 hc2 => ⟨⟨(i + 1, c2), by dsimp only; omega, by dsimp only; omega⟩, tau [(1, 3)], by dsimp only; omega, ?_⟩⟩
        have e4 : xs ++ ZdN v i ++ List.take 1 [v / 256 ^ i % 256] = xs ++ ZdN v (i + 1) := by simp [ZdN]
        simp only [e4]
        refine ZcL [(1, 3)] rfl ?_ ?_ ?_ ?_
        all_goals (first | rfl | trivial | (dsimp only [ZaV, Zbl, Zbk, Zbm, bdL, Chunk.bd, SVal.bd, tau, Zed, ZbF, SVal.ren, SAddr.ren, ZaR, ZbT, Chunk.ren, Heap.find, Za8, ZbL, Nat.beq, cond_true, cond_false, Heap.push, Heap.drop, Heap.set, Zb4, Zca, List.map]; (repeat' apply And.intro) <;> first | rfl | trivial | decide | omega))
      · have h8 : ¬ (i : Int) < 8 := of_decide_eq_false h8
        simp only [e1, List.drop_zero]
        refine ⟨Nat.le_refl _, trivial, by simp [ZbU, hl], by omega, by omega, fun c2 hc2 => ⟨⟨(i + 1, c2), by dsimp only; omega, by dsimp only; omega⟩, tau [(1, 3)], by dsimp only; omega, ?_⟩⟩
        have e5 : v / 256 ^ i % 256 = 0 := by
          have h1 : (256 : Int) ^ 8 <= 256 ^ i := ZkY 256 rfl (by omega) (by omega)
          rw [Int.ediv_eq_zero_of_lt hv (by omega)]; rfl
        have e4 : xs ++ ZdN v i ++ List.take 1 [0] = xs ++ ZdN v (i + 1) := by simp [ZdN, e5]
        simp only [e4]
        refine ZcL [(1, 3)] rfl ?_ ?_ ?_ ?_
        all_goals (first | rfl | trivial | (dsimp only [ZaV, Zbl, Zbk, Zbm, bdL, Chunk.bd, SVal.bd, tau, Zed, ZbF, SVal.ren, SAddr.ren, ZaR, ZbT, Chunk.ren, Heap.find, Za8, ZbL, Nat.beq, cond_true, cond_false, Heap.push, Heap.drop, Heap.set, Zb4, Zca, List.map]; (repeat' apply And.intro) <;> first | rfl | trivial | decide | omega))
    · have hge : ¬ (i : Int) < min n 64 := of_decide_eq_false h
      have hik : i = (min n 64).toNat := by omega
      subst hik
      refine Zcs [] rfl (hK c1 hc1) ?_ ?_ ?_ ?_ ?_
      all_goals (first | rfl | trivial | (dsimp only [ZaV, Zbl, Zbk, Zbm, bdL, Chunk.bd, SVal.bd, tau, Zed, ZbF, SVal.ren, SAddr.ren, ZaR, ZbT, Chunk.ren, Heap.find, Za8, ZbL, Nat.beq, cond_true, cond_false, Heap.push, Heap.drop, Heap.set, Zb4, Zca, List.map]; (repeat' apply And.intro) <;> first | rfl | trivial | decide | omega))
theorem s45 : Sound Try.prog 80 S44 := by
  have hΓ : Zbg Try.prog (ZbI []) := Zcn trivial
  refine Zcv hΓ ZAK ?_
  rintro _ _ K ⟨w, m, c, xs, rfl, rfl, hl, hc, hm, hb, hK⟩
  refine ⟨rfl, fun w0 fp ρi => ?_⟩
  dsimp only [c45, ZaL, SVal.bd, bdL, Zbm, Chunk.bd, ZaL, SVal.bd, bdL, Zbm, Chunk.bd, ZeV, Zbi, Za3, evQ, ZbR, Opd.ev, evL, ZbL, put, ZdO, ZdW, Zez, kEq, Nat.beq, Nat.ble, Nat.blt, and, or, not, cond_true, cond_false, Heap.push, Heap.find, Heap.set, Heap.drop, Za8, SVal.chunks, rdC, rdA, wrC, wrA, Zee, ZeN, Zaw, Chunk.len, isB, ZbB, Zbn, Res.ev, RV.ev, ZeH, Zbr, ZbI, Zcb, Zcd, Zb6, Zca, Zb4, Zev, Zeo, Zb0, Zef, Zbs, Zbu, Zcc, Zbj, Zbw, ZeJ, Zb3, Za2, kap, Zet, SVal.ren, SAddr.ren, ZaR, ZbT, Chunk.ren, ZaS, Zbp, AOp.looks, ZeG, Zel, ZeF, slo, ZbA, Zbc, Zbz, List.length_cons, List.length_nil, List.cons_append, List.nil_append, List.append_nil, Nat.reduceAdd, Nat.reduceSub, Nat.add_zero, Nat.zero_add, Bool.and_true, Bool.true_and, Bool.and_false, Bool.false_and, Bool.or_false, Bool.not_false, Bool.not_true, ZeB, Option.getD, List.set]
  refine ZeC hΓ (fun _ _ _ _ h => h) (S := {i : Nat // i <= 8})
      (fun i => ([(0, some (.slice ⟨0,0,0,1⟩ m c)), (3, some (.int .u64 (Zcz ((xs.take 8).drop i.1)))), (4, some (.int .i64 (i.1 - 1)))], ⟨1,[(0,some ⟨w,[.ints .u8 m xs],0⟩)]⟩)) (fun i => i.1) ?_ ?_
  · refine ⟨⟨8, Nat.le_refl _⟩, tau [], ?_⟩
    have e0 : (xs.take 8).drop 8 = [] := List.drop_of_length_le (by rw [List.length_take]; omega)
    simp only [e0, Zcz]
    refine ZcL [] rfl ?_ ?_ ?_ ?_
    all_goals (first | rfl | trivial | (dsimp only [ZaV, Zbl, Zbk, Zbm, bdL, Chunk.bd, SVal.bd, tau, Zed, ZbF, SVal.ren, SAddr.ren, ZaR, ZbT, Chunk.ren, Heap.find, Za8, ZbL, Nat.beq, cond_true, cond_false, Heap.push, Heap.drop, Heap.set, Zb4, Zca, List.map]; (repeat' apply And.intro) <;> first | rfl | trivial | decide | omega))
  · rintro ⟨i, hi⟩
    dsimp only
    dsimp only [ZBw, ZaL, SVal.bd, bdL, Zbm, Chunk.bd, ZaL, SVal.bd, bdL, Zbm, Chunk.bd, ZeV, Zbi, Za3, evQ, ZbR, Opd.ev, evL, ZbL, put, ZdO, ZdW, Zez, kEq, Nat.beq, Nat.ble, Nat.blt, and, or, not, cond_true, cond_false, Heap.push, Heap.find, Heap.set, Heap.drop, Za8, SVal.chunks, rdC, rdA, wrC, wrA, Zee, ZeN, Zaw, Chunk.len, isB, ZbB, Zbn, Res.ev, RV.ev, ZeH, Zbr, ZbI, Zcb, Zcd, Zb6, Zca, Zb4, Zev, Zeo, Zb0, Zef, Zbs, Zbu, Zcc, Zbj, Zbw, ZeJ, Zb3, Za2, kap, Zet, SVal.ren, SAddr.ren, ZaR, ZbT, Chunk.ren, ZaS, Zbp, AOp.looks, ZeG, Zel, ZeF, slo, ZbA, Zbc, Zbz, List.length_cons, List.length_nil, List.cons_append, List.nil_append, List.append_nil, Nat.reduceAdd, Nat.reduceSub, Nat.add_zero, Nat.zero_add, Bool.and_true, Bool.true_and, Bool.and_false, Bool.false_and, Bool.or_false, Bool.not_false, Bool.not_true, ZeB, Option.getD, List.set]
    refine ⟨fun h => ?_, fun h => ?_⟩
    · have hge : (0 : Int) <= i - 1 := of_decide_eq_true h
      obtain ⟨j, rfl⟩ : ∃ j, i = j + 1 := ⟨i - 1, by omega⟩
      have ej : ((j + 1 : Nat) : Int) - 1 = j := by omega
      have e1 : IntKind.i64.wrap ((j : Int) - 1) = (j : Int) - 1 := wrap_i64 (by omega) (by omega)
      have hr := Zka ((hb.take 8).drop (j + 1))
      have hlen : ((xs.take 8).drop (j + 1)).length <= 7 - j := by rw [List.length_drop, List.length_take]; omega
      have hpow : (256 : Int) ^ ((xs.take 8).drop (j + 1)).length <= 256 ^ (7 - j) := ZkY 256 rfl (by omega) hlen
      have hpow' : (256 : Int) ^ (7 - j) <= 72057594037927936 := ZkY 256 rfl (by omega) (show 7 - j <= 7 by omega)
      have e2 : IntKind.u64.wrap (Zcz ((xs.take 8).drop (j + 1)) * 256) = Zcz ((xs.take 8).drop (j + 1)) * 256 := by rw [ZdH]; omega
      have hx := hb.getD j
      have e3 : IntKind.u64.wrap (xs.getD j 0) = xs.getD j 0 := by rw [ZdH]; omega
      have e4 : IntKind.u64.wrap (Zcz ((xs.take 8).drop (j + 1)) * 256 + xs.getD j 0) = Zcz ((xs.take 8).drop (j + 1)) * 256 + xs.getD j 0 := by rw [ZdH]; omega
      simp only [ej, e1, e2, e3, e4, Int.toNat_natCast, Nat.zero_add]
      refine ⟨fun h => ?_, fun h => ?_⟩
      · have hlt : (j : Int) < m := of_decide_eq_true h
        refine ⟨by omega, hlt, by omega, ⟨j, by omega⟩, tau [], by dsimp only; omega, ?_⟩
        have e5 : Zcz ((xs.take 8).drop j) = Zcz ((xs.take 8).drop (j + 1)) * 256 + xs.getD j 0 := by
          rw [Zx4 (xs := xs.take 8) (by rw [List.length_take]; omega), Zcz, List.getD_eq_getElem?_getD, List.getElem?_take_of_lt (by omega), <- List.getD_eq_getElem?_getD]; omega
        rw [<- e5]
        refine ZcL [] rfl ?_ ?_ ?_ ?_
        all_goals (first | rfl | trivial | (dsimp only [ZaV, Zbl, Zbk, Zbm, bdL, Chunk.bd, SVal.bd, tau, Zed, ZbF, SVal.ren, SAddr.ren, ZaR, ZbT, Chunk.ren, Heap.find, Za8, ZbL, Nat.beq, cond_true, cond_false, Heap.push, Heap.drop, Heap.set, Zb4, Zca, List.map]; (repeat' apply And.intro) <;> first | rfl | trivial | decide | omega))
      · have hge : ¬ (j : Int) < m := of_decide_eq_false h
        refine ⟨⟨j, by omega⟩, tau [], by dsimp only; omega, ?_⟩
        have e5 : ∀ k, j <= k -> (xs.take 8).drop k = [] := fun k hk => List.drop_of_length_le (by rw [List.length_take]; omega)
        simp only [e5 _ (Nat.le_refl j), e5 _ (Nat.le_succ j), Zcz, Int.zero_mul]
        refine ZcL [] rfl ?_ ?_ ?_ ?_
        all_goals (first | rfl | trivial | (dsimp only [ZaV, Zbl, Zbk, Zbm, bdL, Chunk.bd, SVal.bd, tau, Zed, ZbF, SVal.ren, SAddr.ren, ZaR, ZbT, Chunk.ren, Heap.find, Za8, ZbL, Nat.beq, cond_true, cond_false, Heap.push, Heap.drop, Heap.set, Zb4, Zca, List.map]; (repeat' apply And.intro) <;> first | rfl | trivial | decide | omega))
    · have hge : ¬ (0 : Int) <= i - 1 := of_decide_eq_false h
      have hi0 : i = 0 := by omega
      subst hi0
      refine Zcs [] rfl hK ?_ ?_ ?_ ?_ ?_
      all_goals (first | rfl | trivial | (dsimp only [ZaV, Zbl, Zbk, Zbm, bdL, Chunk.bd, SVal.bd, tau, Zed, ZbF, SVal.ren, SAddr.ren, ZaR, ZbT, Chunk.ren, Heap.find, Za8, ZbL, Nat.beq, cond_true, cond_false, Heap.push, Heap.drop, Heap.set, Zb4, Zca, List.map]; (repeat' apply And.intro) <;> first | rfl | trivial | decide | omega))
end Go.Proofs.Ytinjdimejijabaa
