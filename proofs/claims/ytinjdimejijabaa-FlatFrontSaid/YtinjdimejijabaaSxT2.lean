/- Two parts of the proof. -/
import Derived.Test.YtinjdimejijabaaSxCall
import Derived.Test.YtinjdimejijabaaChecked
import Derived.KernelRfl
import Derived.Test.YtinjdimejijabaaSxNum
import Derived.Test.YtinjdimejijabaaSxHelp
set_option linter.unusedVariables false
set_option linter.unusedSimpArgs false
namespace Go.Proofs.Ytinjdimejijabaa
open Go.Sx
def ZtP : ACode := .seq (.reg (.op (some 12) (.bin .lss (.tm 11) (.tm 10)) .nil)) (.seq (.cond (.tm 12) (.skip) (.exit 0)) (.seq (.block 1 (.seq (.reg (.op (some 13) (.mov (.tm 0)) (.op (some 14) (.mov (.tm 1)) (.op (some 15) (.conv .u8 (.tm 14)) (.op (some 16) (.bslice .u8 1 [(0, (.tm 15))]) (.op (some 17) (.append .u8 (.tm 13) (.tm 16)) (.op (some 0) (.mov (.tm 17)) .nil))))))) (.reg (.op (some 18) (.mov (.tm 1)) (.op (some 19) (.bin .shr (.tm 18) (.cn (.int .u64 8))) (.op (some 1) (.mov (.tm 19)) .nil)))))) (.reg (.op (some 20) (.bin .add (.tm 11) (.cn (.int .i64 1))) (.op (some 11) (.mov (.tm 20)) .nil)))))
def c41 : ACode := .seq (.reg (.op (some 6) (.mov (.cn (.nilslice))) .nil)) (.seq (.reg (.op (some 7) (.mov (.tm 0)) (.op (some 8) (.call 87 [(.tm 7)]) (.op (some 0) (.mov (.tm 8)) .nil)))) (.seq (.seq (.reg (.op (some 9) (.mov (.tm 2)) (.op (some 10) (.min2 (.tm 9) (.cn (.int .i64 64))) (.op (some 11) (.mov (.cn (.int .i64 0))) .nil)))) (.block 0 (.loop ZtP))) (.seq (.reg (.op (some 21) (.mov (.tm 0)) (.op (some 6) (.mov (.tm 21)) .nil))) (.ret))))
theorem Zti : ZbJ Try.prog 78 3 22 c41 (.one (.tm 6)) = true := by kernel_rfl
def ZtO : ACode := .seq (.reg (.op (some 12) (.bin .lss (.tm 11) (.tm 10)) .nil)) (.seq (.cond (.tm 12) (.skip) (.exit 0)) (.seq (.block 1 (.seq (.reg (.op (some 13) (.mov (.tm 11)) (.op (some 14) (.idxS (.tm 9) (.tm 11) 1) (.op (some 15) (.load1 (.tm 14)) (.op (some 3) (.mov (.tm 13)) (.op (some 4) (.mov (.tm 15)) .nil)))))) (.reg (.op (some 16) (.mov (.tm 2)) (.op (some 17) (.mov (.tm 4)) (.op (some 18) (.conv .u64 (.tm 17)) (.op (some 19) (.mov (.tm 3)) (.op (some 20) (.bin .mul (.cn (.int .i64 8)) (.tm 19)) (.op (some 21) (.bin .shl (.tm 18) (.tm 20)) (.op (some 22) (.bin .or (.tm 16) (.tm 21)) (.op (some 2) (.mov (.tm 22)) .nil))))))))))) (.reg (.op (some 23) (.bin .add (.tm 11) (.cn (.int .i64 1))) (.op (some 11) (.mov (.tm 23)) .nil)))))
def c44 : ACode := .seq (.reg (.op (some 2) (.mov (.cn (.int .u64 0))) .nil)) (.seq (.seq (.reg (.op (some 5) (.mov (.tm 0)) (.op (some 6) (.mov (.tm 0)) (.op (some 7) (.len (.tm 6)) (.op (some 8) (.min2 (.tm 7) (.cn (.int .i64 8))) (.op (some 9) (.sliceS 1 (.tm 5) none (some (.tm 8)) none) (.op (some 10) (.len (.tm 9)) (.op (some 11) (.mov (.cn (.int .i64 0))) .nil)))))))) (.block 0 (.loop ZtO))) (.seq (.reg (.op (some 24) (.mov (.tm 2)) (.op (some 2) (.mov (.tm 24)) .nil))) (.ret)))
theorem Zth : ZbJ Try.prog 76 1 25 c44 (.one (.tm 2)) = true := by kernel_rfl
def ZCE : ACode := .seq (.reg (.op (some 2) (.mov (.cn (.nilslice))) .nil)) (.seq (.seq (.reg (.op (some 3) (.mov (.tm 0)) (.op (some 4) (.isNil false (.tm 3)) .nil))) (.cond (.tm 4) (.seq (.reg (.op (some 2) (.mov (.cn (.nilslice))) .nil)) (.ret)) (.skip))) (.seq (.reg (.op (some 5) (.bslice .u8 0 []) (.op (some 6) (.mov (.tm 0)) (.op (some 7) (.append .u8 (.tm 5) (.tm 6)) (.op (some 2) (.mov (.tm 7)) .nil))))) (.ret)))
theorem Zsj : ZbJ Try.prog 87 1 8 ZCE (.one (.tm 2)) = true := by kernel_rfl
end Go.Proofs.Ytinjdimejijabaa

namespace Go.Proofs.Ytinjdimejijabaa
open Go.Sx
def ZDs : Sx.ZhM := fun args H K => ∃ w n c xs, args = [.slice ⟨0,0,0,1⟩ n c] /\ H = ⟨1,[(0,some ⟨w,[.ints .u8 n xs],0⟩)]⟩ /\ xs.length = n /\ n <= 1000000000 /\ ∀ c', n <= c' -> K (.slice ⟨1,0,0,1⟩ n c') ⟨2,[(1,some ⟨true,[.ints .u8 n xs],c'-n⟩),(0,some ⟨w,[.ints .u8 n xs],0⟩)]⟩
theorem ZDA : Sound Try.prog 87 ZDs := by
  refine Zct (Γ := ZbC []) (Zci trivial) Zsj ?_
  rintro _ _ K ⟨w, n, c, xs, rfl, rfl, hl, hn, hK⟩
  refine ⟨rfl, fun w0 fp ρi => ?_⟩
  dsimp only [ZCE, ZaN, SVal.bd, bdL, Zbk, Chunk.bd, ZaN, SVal.bd, bdL, Zbk, Chunk.bd, ZeE, Za8, Za0, evQ, Zbi, Opd.ev, evL, ZbF, put, Zdj, Zds, Zd3, kEq, Nat.beq, Nat.ble, Nat.blt, and, or, not, cond_true, cond_false, Heap.push, Heap.find, Heap.set, Heap.drop, Za4, SVal.chunks, rdC, rdA, wrC, wrA, ZdB, Zet, Zar, Chunk.len, isB, Zbv, Zbj, Res.ev, RV.ev, Zeg, Zbp, ZbC, Zb7, Zcb, ZbX, Zcg, Zb1, Zd1, ZdT, ZbT, ZdI, Zbq, Zbr, Zca, Zba, Zbt, Zes, ZbV, ZaZ, kap, Zd0, SVal.ren, SAddr.ren, ZaQ, ZbQ, Chunk.ren, ZaS, Zbn, AOp.looks, Zd5, ZdQ, Zd2, slo, Zbu, Za6, Zbl, List.length_cons, List.length_nil, List.cons_append, List.nil_append, List.append_nil, Nat.reduceAdd, Nat.reduceSub, Nat.add_zero, Nat.zero_add, Bool.and_true, Bool.true_and, Bool.and_false, Bool.false_and, Bool.or_false, Bool.not_false, Bool.not_true, Zd6, Option.getD, List.set]
  refine fun q hq => ⟨fun h => ?_, fun h => ⟨by omega, rfl, rfl, rfl, by omega, fun c' hc => ?_⟩⟩
  · obtain ⟨rfl, rfl⟩ := hq h
    obtain rfl := List.eq_nil_of_length_eq_zero hl
    refine Zrm [] [.ints .u8 0 []] rfl rfl rfl (hK 0 (Nat.le_refl _)) ?_ ?_ ?_ ?_ ?_
    all_goals (first | rfl | trivial | (dsimp only [ZaX, Zbo, Zbh, Zbk, bdL, Chunk.bd, SVal.bd, tau, Zd4, Zby, SVal.ren, SAddr.ren, ZaQ, ZbQ, Chunk.ren, Heap.find, Za4, ZbF, Nat.beq, cond_true, cond_false, Heap.push, Heap.drop, Heap.set, Zb1, Zcg, List.map]; (repeat' apply And.intro) <;> first | rfl | trivial | decide | omega))
  · simp only [Nat.zero_add, List.drop_zero, List.take_of_length_le (Nat.le_of_eq hl)] at *
    refine Zcs [(1, 2)] rfl (hK c' hc) ?_ ?_ ?_ ?_ ?_
    all_goals (first | rfl | trivial | (dsimp only [ZaX, Zbo, Zbh, Zbk, bdL, Chunk.bd, SVal.bd, tau, Zd4, Zby, SVal.ren, SAddr.ren, ZaQ, ZbQ, Chunk.ren, Heap.find, Za4, ZbF, Nat.beq, cond_true, cond_false, Heap.push, Heap.drop, Heap.set, Zb1, Zcg, List.map]; (repeat' apply And.intro) <;> first | rfl | trivial | decide | omega))
end Go.Proofs.Ytinjdimejijabaa

namespace Go.Proofs.Ytinjdimejijabaa
open Go.Sx
def Zr6 : Con := ⟨87, ZDs, [], [.ints .u8 0 []], []⟩
def S41 : Sx.ZhM := fun args H K => ∃ w m c xs v n, args = [.slice ⟨0,0,0,1⟩ m c, .int .u64 v, .int .i64 n] /\ H = ⟨1,[(0,some ⟨w,[.ints .u8 m xs],0⟩)]⟩ /\ xs.length = m /\ m <= 1000000 /\ 0 <= v /\ v < 2^64 /\
  ∀ c', m + (min n 64).toNat <= c' -> K (.slice ⟨1,0,0,1⟩ (m + (min n 64).toNat) c') ⟨2,[(1,some ⟨true,[.ints .u8 (m + (min n 64).toNat) (xs ++ ZhL v (min n 64).toNat)],c'-(m + (min n 64).toNat)⟩),(0,some ⟨w,[.ints .u8 m xs],0⟩)]⟩
theorem s41 : Sound Try.prog 78 S41 := by
  have hΓ : Zbb Try.prog (ZbC [Zr6]) := Zci ⟨ZDA, trivial⟩
  refine Zct hΓ Zti ?_
  rintro _ _ K ⟨w, m, c, xs, v, n, rfl, rfl, hl, hn, hv, hv', hK⟩
  refine ⟨rfl, fun w0 fp ρi => ?_⟩
  dsimp only [c41, Zr6, ZaN, SVal.bd, bdL, Zbk, Chunk.bd, ZaN, SVal.bd, bdL, Zbk, Chunk.bd, ZeE, Za8, Za0, evQ, Zbi, Opd.ev, evL, ZbF, put, Zdj, Zds, Zd3, kEq, Nat.beq, Nat.ble, Nat.blt, and, or, not, cond_true, cond_false, Heap.push, Heap.find, Heap.set, Heap.drop, Za4, SVal.chunks, rdC, rdA, wrC, wrA, ZdB, Zet, Zar, Chunk.len, isB, Zbv, Zbj, Res.ev, RV.ev, Zeg, Zbp, ZbC, Zb7, Zcb, ZbX, Zcg, Zb1, Zd1, ZdT, ZbT, ZdI, Zbq, Zbr, Zca, Zba, Zbt, Zes, ZbV, ZaZ, kap, Zd0, SVal.ren, SAddr.ren, ZaQ, ZbQ, Chunk.ren, ZaS, Zbn, AOp.looks, Zd5, ZdQ, Zd2, slo, Zbu, Za6, Zbl, List.length_cons, List.length_nil, List.cons_append, List.nil_append, List.append_nil, Nat.reduceAdd, Nat.reduceSub, Nat.add_zero, Nat.zero_add, Bool.and_true, Bool.true_and, Bool.and_false, Bool.false_and, Bool.or_false, Bool.not_false, Bool.not_true, Zd6, Option.getD, List.set]
  refine ⟨Nat.le_of_eq (Nat.zero_add m), _, _, _, _, rfl, rfl, ?_, ?_, fun c' hc => ?_⟩
  · simp [hl]
  · omega
  dsimp only [ZaN, SVal.bd, bdL, Zbk, Chunk.bd, ZaN, SVal.bd, bdL, Zbk, Chunk.bd, ZeE, Za8, Za0, evQ, Zbi, Opd.ev, evL, ZbF, put, Zdj, Zds, Zd3, kEq, Nat.beq, Nat.ble, Nat.blt, and, or, not, cond_true, cond_false, Heap.push, Heap.find, Heap.set, Heap.drop, Za4, SVal.chunks, rdC, rdA, wrC, wrA, ZdB, Zet, Zar, Chunk.len, isB, Zbv, Zbj, Res.ev, RV.ev, Zeg, Zbp, ZbC, Zb7, Zcb, ZbX, Zcg, Zb1, Zd1, ZdT, ZbT, ZdI, Zbq, Zbr, Zca, Zba, Zbt, Zes, ZbV, ZaZ, kap, Zd0, SVal.ren, SAddr.ren, ZaQ, ZbQ, Chunk.ren, ZaS, Zbn, AOp.looks, Zd5, ZdQ, Zd2, slo, Zbu, Za6, Zbl, List.length_cons, List.length_nil, List.cons_append, List.nil_append, List.append_nil, Nat.reduceAdd, Nat.reduceSub, Nat.add_zero, Nat.zero_add, Bool.and_true, Bool.true_and, Bool.and_false, Bool.false_and, Bool.or_false, Bool.not_false, Bool.not_true, Zd6, Option.getD, List.set]
  simp only [List.drop_zero, List.take_of_length_le (Nat.le_of_eq hl)]
  refine Zft hΓ (fun _ _ _ _ h => h) (S := {p : Nat × Nat // m + p.1 <= p.2 /\ p.1 <= (min n 64).toNat})
    (fun p => ([(0, some (.slice ⟨1,0,0,1⟩ (m + p.1.1) p.1.2)), (1, some (.int .u64 (v / 256 ^ p.1.1))), (10, some (.int .i64 (min n 64))), (11, some (.int .i64 p.1.1))],
      ⟨2,[(1,some ⟨true,[.ints .u8 (m + p.1.1) (xs ++ ZhL v p.1.1)],p.1.2-(m + p.1.1)⟩),(0,some ⟨w,[.ints .u8 m xs],0⟩)]⟩)) (fun p => (min n 64).toNat - p.1.1) ?_ ?_
  · have e0 : (if (64 : Int) < n then 64 else n) = min n 64 := by omega
    refine ⟨⟨(0, c'), by simpa using hc, Nat.zero_le _⟩, tau [], ?_⟩
    simp only [e0, ZhL, List.append_nil, Nat.add_zero, Int.pow_zero, Int.ediv_one]
    refine Zdc [] rfl ?_ ?_ ?_ ?_
    all_goals (first | rfl | trivial | (dsimp only [ZaX, Zbo, Zbh, Zbk, bdL, Chunk.bd, SVal.bd, tau, Zd4, Zby, SVal.ren, SAddr.ren, ZaQ, ZbQ, Chunk.ren, Heap.find, Za4, ZbF, Nat.beq, cond_true, cond_false, Heap.push, Heap.drop, Heap.set, Zb1, Zcg, List.map]; (repeat' apply And.intro) <;> first | rfl | trivial | decide | omega))
  · rintro ⟨⟨i, c1⟩, hc1, hi⟩
    dsimp only at hc1 hi
    dsimp only [ZtP, ZaN, SVal.bd, bdL, Zbk, Chunk.bd, ZaN, SVal.bd, bdL, Zbk, Chunk.bd, ZeE, Za8, Za0, evQ, Zbi, Opd.ev, evL, ZbF, put, Zdj, Zds, Zd3, kEq, Nat.beq, Nat.ble, Nat.blt, and, or, not, cond_true, cond_false, Heap.push, Heap.find, Heap.set, Heap.drop, Za4, SVal.chunks, rdC, rdA, wrC, wrA, ZdB, Zet, Zar, Chunk.len, isB, Zbv, Zbj, Res.ev, RV.ev, Zeg, Zbp, ZbC, Zb7, Zcb, ZbX, Zcg, Zb1, Zd1, ZdT, ZbT, ZdI, Zbq, Zbr, Zca, Zba, Zbt, Zes, ZbV, ZaZ, kap, Zd0, SVal.ren, SAddr.ren, ZaQ, ZbQ, Chunk.ren, ZaS, Zbn, AOp.looks, Zd5, ZdQ, Zd2, slo, Zbu, Za6, Zbl, List.length_cons, List.length_nil, List.cons_append, List.nil_append, List.append_nil, Nat.reduceAdd, Nat.reduceSub, Nat.add_zero, Nat.zero_add, Bool.and_true, Bool.true_and, Bool.and_false, Bool.false_and, Bool.or_false, Bool.not_false, Bool.not_true, Zd6, Option.getD, List.set]
    refine ⟨fun h => ?_, fun h => ?_⟩
    · have hlt : (i : Int) < min n 64 := of_decide_eq_true h
      refine ⟨Nat.le_refl _, rfl, by simp [Zdg, hl], by omega, by omega, fun c2 hc2 => ⟨by decide, ⟨(i + 1, c2), by dsimp only; omega, by dsimp only; omega⟩, tau [(1, 3)], by dsimp only; omega, ?_⟩⟩
      have e1 : IntKind.i64.wrap (↑i + 1) = ((i + 1 : Nat) : Int) := wrap_i64 (by omega) (by omega)
      have e2 : ZAX IntKind.u64 (v / 256 ^ i) 8 = v / 256 ^ (i + 1) := by
        rw [ZwF _ _ _ (by decide), Int.ediv_ediv_of_nonneg (Int.pow_nonneg (by omega)), Int.pow_succ]; rfl
      have e3 : xs ++ ZhL v i ++ List.take 1 (List.drop 0 [IntKind.u8.wrap (v / 256 ^ i)]) = xs ++ ZhL v (i + 1) := by
        simp [ZhL, wrap_u8]
      simp only [e1, e2, e3]
      refine Zdc [(1, 3)] rfl ?_ ?_ ?_ ?_
      all_goals (first | rfl | trivial | (dsimp only [ZaX, Zbo, Zbh, Zbk, bdL, Chunk.bd, SVal.bd, tau, Zd4, Zby, SVal.ren, SAddr.ren, ZaQ, ZbQ, Chunk.ren, Heap.find, Za4, ZbF, Nat.beq, cond_true, cond_false, Heap.push, Heap.drop, Heap.set, Zb1, Zcg, List.map]; (repeat' apply And.intro) <;> first | rfl | trivial | decide | omega))
    · have hge : ¬ (i : Int) < min n 64 := of_decide_eq_false h
      have hik : i = (min n 64).toNat := by omega
      subst hik
      refine Zcs [] rfl (hK c1 hc1) ?_ ?_ ?_ ?_ ?_
      all_goals (first | rfl | trivial | (dsimp only [ZaX, Zbo, Zbh, Zbk, bdL, Chunk.bd, SVal.bd, tau, Zd4, Zby, SVal.ren, SAddr.ren, ZaQ, ZbQ, Chunk.ren, Heap.find, Za4, ZbF, Nat.beq, cond_true, cond_false, Heap.push, Heap.drop, Heap.set, Zb1, Zcg, List.map]; (repeat' apply And.intro) <;> first | rfl | trivial | decide | omega))
end Go.Proofs.Ytinjdimejijabaa
