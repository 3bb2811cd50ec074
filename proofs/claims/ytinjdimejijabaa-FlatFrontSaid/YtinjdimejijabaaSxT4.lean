/- Two parts of the proof. -/
import Derived.Test.YtinjdimejijabaaSxT2
set_option linter.unusedVariables false
set_option linter.unusedSimpArgs false
namespace Go.Proofs.Ytinjdimejijabaa
open Go.Sx
def S44 : Sx.ZhM := fun args H K => ∃ w m c xs, args = [.slice ⟨0,0,0,1⟩ m c] /\ H = ⟨1,[(0,some ⟨w,[.ints .u8 m xs],0⟩)]⟩ /\ xs.length = m /\ m <= c /\ m <= 1000000000 /\ Byt xs /\
  K (.int .u64 (ZeT (xs.take 8))) ⟨1,[(0,some ⟨w,[.ints .u8 m xs],0⟩)]⟩
theorem s44 : Sound Try.prog 76 S44 := by
  have hΓ : Zbb Try.prog (ZbC []) := Zci trivial
  refine Zct hΓ Zth ?_
  rintro _ _ K ⟨w, m, c, xs, rfl, rfl, hl, hc, hm, hb, hK⟩
  refine ⟨rfl, fun w0 fp ρi => ?_⟩
  dsimp only [c44, ZaN, SVal.bd, bdL, Zbk, Chunk.bd, ZaN, SVal.bd, bdL, Zbk, Chunk.bd, ZeE, Za8, Za0, evQ, Zbi, Opd.ev, evL, ZbF, put, Zdj, Zds, Zd3, kEq, Nat.beq, Nat.ble, Nat.blt, and, or, not, cond_true, cond_false, Heap.push, Heap.find, Heap.set, Heap.drop, Za4, SVal.chunks, rdC, rdA, wrC, wrA, ZdB, Zet, Zar, Chunk.len, isB, Zbv, Zbj, Res.ev, RV.ev, Zeg, Zbp, ZbC, Zb7, Zcb, ZbX, Zcg, Zb1, Zd1, ZdT, ZbT, ZdI, Zbq, Zbr, Zca, Zba, Zbt, Zes, ZbV, ZaZ, kap, Zd0, SVal.ren, SAddr.ren, ZaQ, ZbQ, Chunk.ren, ZaS, Zbn, AOp.looks, Zd5, ZdQ, Zd2, slo, Zbu, Za6, Zbl, List.length_cons, List.length_nil, List.cons_append, List.nil_append, List.append_nil, Nat.reduceAdd, Nat.reduceSub, Nat.add_zero, Nat.zero_add, Bool.and_true, Bool.true_and, Bool.and_false, Bool.false_and, Bool.or_false, Bool.not_false, Bool.not_true, Zd6, Option.getD, List.set]
  have e0 : (if (8 : Int) < (m : Int) then (8 : Int) else m) = ((min m 8 : Nat) : Int) := by omega
  simp only [e0, Int.toNat_natCast, Nat.sub_zero]
  refine ⟨by omega, by omega, ?_⟩
  refine Zft hΓ (fun _ _ _ _ h => h) (S := {i : Nat // i <= min m 8})
      (fun i => ([(9, some (.slice ⟨0,0,0,1⟩ (min m 8) c)), (10, some (.int .i64 (min m 8 : Nat))), (2, some (.int .u64 (ZeT (xs.take i.1)))), (11, some (.int .i64 i.1))], ⟨1,[(0,some ⟨w,[.ints .u8 m xs],0⟩)]⟩)) (fun i => min m 8 - i.1) ?_ ?_
  · refine ⟨⟨0, Nat.zero_le _⟩, tau [], ?_⟩
    refine Zdc [] rfl ?_ ?_ ?_ ?_
    all_goals (first | rfl | trivial | (dsimp only [ZaX, Zbo, Zbh, Zbk, bdL, Chunk.bd, SVal.bd, tau, Zd4, Zby, SVal.ren, SAddr.ren, ZaQ, ZbQ, Chunk.ren, Heap.find, Za4, ZbF, Nat.beq, cond_true, cond_false, Heap.push, Heap.drop, Heap.set, Zb1, Zcg, List.map]; (repeat' apply And.intro) <;> first | rfl | trivial | decide | omega))
  · rintro ⟨i, hi⟩
    dsimp only
    dsimp only [ZtO, ZaN, SVal.bd, bdL, Zbk, Chunk.bd, ZaN, SVal.bd, bdL, Zbk, Chunk.bd, ZeE, Za8, Za0, evQ, Zbi, Opd.ev, evL, ZbF, put, Zdj, Zds, Zd3, kEq, Nat.beq, Nat.ble, Nat.blt, and, or, not, cond_true, cond_false, Heap.push, Heap.find, Heap.set, Heap.drop, Za4, SVal.chunks, rdC, rdA, wrC, wrA, ZdB, Zet, Zar, Chunk.len, isB, Zbv, Zbj, Res.ev, RV.ev, Zeg, Zbp, ZbC, Zb7, Zcb, ZbX, Zcg, Zb1, Zd1, ZdT, ZbT, ZdI, Zbq, Zbr, Zca, Zba, Zbt, Zes, ZbV, ZaZ, kap, Zd0, SVal.ren, SAddr.ren, ZaQ, ZbQ, Chunk.ren, ZaS, Zbn, AOp.looks, Zd5, ZdQ, Zd2, slo, Zbu, Za6, Zbl, List.length_cons, List.length_nil, List.cons_append, List.nil_append, List.append_nil, Nat.reduceAdd, Nat.reduceSub, Nat.add_zero, Nat.zero_add, Bool.and_true, Bool.true_and, Bool.and_false, Bool.false_and, Bool.or_false, Bool.not_false, Bool.not_true, Zd6, Option.getD, List.set]
    refine ⟨fun h => ?_, fun h => ?_⟩
    · have hlt : (i : Int) < (min m 8 : Nat) := of_decide_eq_true h
      have hx := hb.getD i
      have e1 : IntKind.i64.wrap (↑i + 1) = ((i + 1 : Nat) : Int) := wrap_i64 (by omega) (by omega)
      have e2 : IntKind.i64.wrap (8 * ↑i) = ((8 * i : Nat) : Int) := wrap_i64 (by omega) (by omega)
      have e3 : IntKind.u64.wrap (xs.getD i 0) = xs.getD i 0 := by rw [ZfN]; omega
      have hr := Zju (hb.take i)
      rw [List.length_take, Nat.min_eq_left (by omega)] at hr
      have e4 : ior .u64 (ZeT (xs.take i)) (ZsY .u64 (xs.getD i 0) ((8 * i : Nat) : Int)) = ZeT (xs.take (i + 1)) := by
        have hp : (256 : Int) ^ i = 2 ^ (8 * i) := by rw [Int.pow_mul]; rfl
        have hle : xs.getD i 0 * 2 ^ (8 * i) + 2 ^ (8 * i) <= 18446744073709551616 := by
          have h1 : xs.getD i 0 * 2 ^ (8 * i) + 2 ^ (8 * i) = (xs.getD i 0 + 1) * 2 ^ (8 * i) := by rw [Int.add_mul, Int.one_mul]
          have h2 : (xs.getD i 0 + 1) * 2 ^ (8 * i) <= 256 * 2 ^ (8 * i) := Int.mul_le_mul_of_nonneg_right (by omega) (Int.pow_nonneg (by omega))
          have h3 : (256 : Int) * 2 ^ (8 * i) = 2 ^ (8 * (i + 1)) := by rw [Nat.mul_add, Int.pow_add]; omega
          have h4 : (2 : Int) ^ (8 * (i + 1)) <= 2 ^ 64 := by have := Nat.pow_le_pow_right (n := 2) (by omega) (show 8 * (i + 1) <= 64 by omega); exact_mod_cast this
          omega
        rw [hp] at hr
        have h0 : 0 <= xs.getD i 0 * 2 ^ (8 * i) := Int.mul_nonneg hx.1 (Int.pow_nonneg (by omega))
        rw [Zgb (by omega), ZiW, List.length_take, Nat.min_eq_left (by omega), Zos (by omega), Int.toNat_natCast, Int.emod_eq_of_lt h0 (by omega), hp]
        exact Zs0 hr.1 hr.2 hx.1 rfl (by omega)
      refine ⟨by omega, hlt, by omega, ?_⟩
      simp only [Int.toNat_natCast, Nat.zero_add, e1, e2, e3, e4]
      refine ⟨by omega, ⟨i + 1, by omega⟩, tau [], by dsimp only; omega, ?_⟩
      refine Zdc [] rfl ?_ ?_ ?_ ?_
      all_goals (first | rfl | trivial | (dsimp only [ZaX, Zbo, Zbh, Zbk, bdL, Chunk.bd, SVal.bd, tau, Zd4, Zby, SVal.ren, SAddr.ren, ZaQ, ZbQ, Chunk.ren, Heap.find, Za4, ZbF, Nat.beq, cond_true, cond_false, Heap.push, Heap.drop, Heap.set, Zb1, Zcg, List.map]; (repeat' apply And.intro) <;> first | rfl | trivial | decide | omega))
    · have hge : ¬ (i : Int) < (min m 8 : Nat) := of_decide_eq_false h
      have hxs : xs.take i = xs.take 8 := by
        have : i = min m 8 := by omega
        subst this
        rcases Nat.le_total m 8 with h | h
        · rw [Nat.min_eq_left h, List.take_of_length_le (by omega), List.take_of_length_le (by omega)]
        · rw [Nat.min_eq_right h]
      rw [<- hxs] at hK
      refine Zcs [] rfl hK ?_ ?_ ?_ ?_ ?_
      all_goals (first | rfl | trivial | (dsimp only [ZaX, Zbo, Zbh, Zbk, bdL, Chunk.bd, SVal.bd, tau, Zd4, Zby, SVal.ren, SAddr.ren, ZaQ, ZbQ, Chunk.ren, Heap.find, Za4, ZbF, Nat.beq, cond_true, cond_false, Heap.push, Heap.drop, Heap.set, Zb1, Zcg, List.map]; (repeat' apply And.intro) <;> first | rfl | trivial | decide | omega))
end Go.Proofs.Ytinjdimejijabaa

namespace Go.Proofs.Ytinjdimejijabaa
open Go.Sx
end Go.Proofs.Ytinjdimejijabaa
