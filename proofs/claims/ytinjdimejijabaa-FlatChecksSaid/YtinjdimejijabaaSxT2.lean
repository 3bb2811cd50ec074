/- Two parts of the proof. -/
import Derived.Test.YtinjdimejijabaaSxCall
import Derived.Test.YtinjdimejijabaaChecked
import Derived.KernelRfl
import Derived.Test.YtinjdimejijabaaSxNum
import Derived.Test.YtinjdimejijabaaSxHelp
set_option linter.unusedVariables false
set_option linter.unusedSimpArgs false
namespace Go.Proofs.Ytinjdimejijabaa
open Go.Sx
def ZBz : ACode := .seq (.reg (.op (some 12) (.bin .lss (.tm 11) (.tm 10)) .nil)) (.seq (.cond (.tm 12) (.skip) (.exit 0)) (.seq (.block 1 (.seq (.reg (.op (some 13) (.mov (.tm 0)) (.op (some 14) (.mov (.tm 1)) (.op (some 15) (.conv .u8 (.tm 14)) (.op (some 16) (.bslice .u8 1 [(0, (.tm 15))]) (.op (some 17) (.append .u8 (.tm 13) (.tm 16)) (.op (some 0) (.mov (.tm 17)) .nil))))))) (.reg (.op (some 18) (.mov (.tm 1)) (.op (some 19) (.bin .shr (.tm 18) (.cn (.int .u64 8))) (.op (some 1) (.mov (.tm 19)) .nil)))))) (.reg (.op (some 20) (.bin .add (.tm 11) (.cn (.int .i64 1))) (.op (some 11) (.mov (.tm 20)) .nil)))))
def c41 : ACode := .seq (.reg (.op (some 6) (.mov (.cn (.nilslice))) .nil)) (.seq (.reg (.op (some 7) (.mov (.tm 0)) (.op (some 8) (.call 87 [(.tm 7)]) (.op (some 0) (.mov (.tm 8)) .nil)))) (.seq (.seq (.reg (.op (some 9) (.mov (.tm 2)) (.op (some 10) (.min2 (.tm 9) (.cn (.int .i64 64))) (.op (some 11) (.mov (.cn (.int .i64 0))) .nil)))) (.block 0 (.loop ZBz))) (.seq (.reg (.op (some 21) (.mov (.tm 0)) (.op (some 6) (.mov (.tm 21)) .nil))) (.ret))))
theorem ZAN : ZbE Try.prog 78 3 22 c41 (.one (.tm 6)) = true := by kernel_rfl
def ZBy : ACode := .seq (.seq (.reg (.op (some 12) (.mov (.tm 8)) (.op (some 13) (.mov (.tm 2)) (.op (some 14) (.bin .lss (.tm 12) (.tm 13)) (.op (some 15) (.mov (.tm 14)) (.grpJ 15 true (.op (some 16) (.mov (.tm 8)) (.op (some 17) (.bin .lss (.tm 16) (.cn (.int .i64 64))) .nil)) 18 (.tm 17) (.cn (.bool false)) (.nil))))))) (.cond (.tm 18) (.skip) (.exit 0))) (.seq (.block 1 (.seq (.reg (.op (some 21) (.mov (.tm 8)) (.op (some 22) (.bin .lss (.tm 21) (.cn (.int .i64 8))) .nil))) (.cond (.tm 22) (.reg (.op (some 23) (.mov (.tm 7)) (.op (some 24) (.mov (.tm 1)) (.op (some 25) (.mov (.tm 8)) (.op (some 26) (.bin .mul (.cn (.int .i64 8)) (.tm 25)) (.op (some 27) (.bin .shr (.tm 24) (.tm 26)) (.op (some 28) (.conv .u8 (.tm 27)) (.op (some 29) (.bslice .u8 1 [(0, (.tm 28))]) (.op (some 30) (.append .u8 (.tm 23) (.tm 29)) (.op (some 7) (.mov (.tm 30)) .nil)))))))))) (.reg (.op (some 31) (.mov (.tm 7)) (.op (some 32) (.bslice .u8 1 [(0, (.cn (.int .u8 0)))]) (.op (some 33) (.append .u8 (.tm 31) (.tm 32)) (.op (some 7) (.mov (.tm 33)) .nil)))))))) (.reg (.op (some 19) (.mov (.tm 8)) (.op (some 20) (.bin .add (.tm 19) (.cn (.int .i64 1))) (.op (some 8) (.mov (.tm 20)) .nil)))))
def c43 : ACode := .seq (.reg (.op (some 6) (.mov (.cn (.nilslice))) .nil)) (.seq (.reg (.op (some 9) (.bslice .u8 0 []) (.op (some 10) (.mov (.tm 0)) (.op (some 11) (.append .u8 (.tm 9) (.tm 10)) (.op (some 7) (.mov (.tm 11)) .nil))))) (.seq (.seq (.reg (.op (some 8) (.mov (.cn (.int .i64 0))) .nil)) (.block 0 (.loop ZBy))) (.seq (.reg (.op (some 34) (.mov (.tm 7)) (.op (some 6) (.mov (.tm 34)) .nil))) (.ret))))
theorem ZAM : ZbE Try.prog 81 3 35 c43 (.one (.tm 6)) = true := by kernel_rfl
def ZBx : ACode := .seq (.reg (.op (some 12) (.bin .lss (.tm 11) (.tm 10)) .nil)) (.seq (.cond (.tm 12) (.skip) (.exit 0)) (.seq (.block 1 (.seq (.reg (.op (some 13) (.mov (.tm 11)) (.op (some 14) (.idxS (.tm 9) (.tm 11) 1) (.op (some 15) (.load1 (.tm 14)) (.op (some 3) (.mov (.tm 13)) (.op (some 4) (.mov (.tm 15)) .nil)))))) (.reg (.op (some 16) (.mov (.tm 2)) (.op (some 17) (.mov (.tm 4)) (.op (some 18) (.conv .u64 (.tm 17)) (.op (some 19) (.mov (.tm 3)) (.op (some 20) (.bin .mul (.cn (.int .i64 8)) (.tm 19)) (.op (some 21) (.bin .shl (.tm 18) (.tm 20)) (.op (some 22) (.bin .or (.tm 16) (.tm 21)) (.op (some 2) (.mov (.tm 22)) .nil))))))))))) (.reg (.op (some 23) (.bin .add (.tm 11) (.cn (.int .i64 1))) (.op (some 11) (.mov (.tm 23)) .nil)))))
def c44 : ACode := .seq (.reg (.op (some 2) (.mov (.cn (.int .u64 0))) .nil)) (.seq (.seq (.reg (.op (some 5) (.mov (.tm 0)) (.op (some 6) (.mov (.tm 0)) (.op (some 7) (.len (.tm 6)) (.op (some 8) (.min2 (.tm 7) (.cn (.int .i64 8))) (.op (some 9) (.sliceS 1 (.tm 5) none (some (.tm 8)) none) (.op (some 10) (.len (.tm 9)) (.op (some 11) (.mov (.cn (.int .i64 0))) .nil)))))))) (.block 0 (.loop ZBx))) (.seq (.reg (.op (some 24) (.mov (.tm 2)) (.op (some 2) (.mov (.tm 24)) .nil))) (.ret)))
theorem ZAL : ZbE Try.prog 76 1 25 c44 (.one (.tm 2)) = true := by kernel_rfl
def ZBw : ACode := .seq (.seq (.reg (.op (some 5) (.mov (.tm 4)) (.op (some 6) (.bin .geq (.tm 5) (.cn (.int .i64 0))) .nil))) (.cond (.tm 6) (.skip) (.exit 0))) (.seq (.block 1 (.seq (.reg (.op (some 9) (.mov (.tm 3)) (.op (some 10) (.bin .mul (.tm 9) (.cn (.int .u64 256))) (.op (some 3) (.mov (.tm 10)) .nil)))) (.seq (.reg (.op (some 11) (.mov (.tm 4)) (.op (some 12) (.mov (.tm 0)) (.op (some 13) (.len (.tm 12)) (.op (some 14) (.bin .lss (.tm 11) (.tm 13)) .nil))))) (.cond (.tm 14) (.reg (.op (some 15) (.mov (.tm 3)) (.op (some 16) (.mov (.tm 0)) (.op (some 17) (.mov (.tm 4)) (.op (some 18) (.idxS (.tm 16) (.tm 17) 1) (.op (some 19) (.load1 (.tm 18)) (.op (some 20) (.conv .u64 (.tm 19)) (.op (some 21) (.bin .add (.tm 15) (.tm 20)) (.op (some 3) (.mov (.tm 21)) .nil))))))))) (.skip))))) (.reg (.op (some 7) (.mov (.tm 4)) (.op (some 8) (.bin .sub (.tm 7) (.cn (.int .i64 1))) (.op (some 4) (.mov (.tm 8)) .nil)))))
def c45 : ACode := .seq (.reg (.op (some 2) (.mov (.cn (.int .u64 0))) .nil)) (.seq (.reg (.op (some 3) (.mov (.cn (.int .u64 0))) .nil)) (.seq (.seq (.reg (.op (some 4) (.mov (.cn (.int .i64 7))) .nil)) (.block 0 (.loop ZBw))) (.seq (.reg (.op (some 22) (.mov (.tm 3)) (.op (some 2) (.mov (.tm 22)) .nil))) (.ret))))
theorem ZAK : ZbE Try.prog 80 1 23 c45 (.one (.tm 2)) = true := by kernel_rfl
def ZQy : ACode := .seq (.reg (.op (some 2) (.mov (.cn (.nilslice))) .nil)) (.seq (.seq (.reg (.op (some 3) (.mov (.tm 0)) (.op (some 4) (.isNil false (.tm 3)) .nil))) (.cond (.tm 4) (.seq (.reg (.op (some 2) (.mov (.cn (.nilslice))) .nil)) (.ret)) (.skip))) (.seq (.reg (.op (some 5) (.bslice .u8 0 []) (.op (some 6) (.mov (.tm 0)) (.op (some 7) (.append .u8 (.tm 5) (.tm 6)) (.op (some 2) (.mov (.tm 7)) .nil))))) (.ret)))
theorem ZyG : ZbE Try.prog 87 1 8 ZQy (.one (.tm 2)) = true := by kernel_rfl
end Go.Proofs.Ytinjdimejijabaa

namespace Go.Proofs.Ytinjdimejijabaa
open Go.Sx
def ZR1 : Sx.ZjV := fun args H K => ∃ w n c xs, args = [.slice ⟨0,0,0,1⟩ n c] /\ H = ⟨1,[(0,some ⟨w,[.ints .u8 n xs],0⟩)]⟩ /\ xs.length = n /\ n <= 1000000000 /\ ∀ c', n <= c' -> K (.slice ⟨1,0,0,1⟩ n c') ⟨2,[(1,some ⟨true,[.ints .u8 n xs],c'-n⟩),(0,some ⟨w,[.ints .u8 n xs],0⟩)]⟩
theorem ZSa : Sound Try.prog 87 ZR1 := by
  refine Zcv (Γ := ZbI []) (Zcn trivial) ZyG ?_
  rintro _ _ K ⟨w, n, c, xs, rfl, rfl, hl, hn, hK⟩
  refine ⟨rfl, fun w0 fp ρi => ?_⟩
  dsimp only [ZQy, ZaL, SVal.bd, bdL, Zbm, Chunk.bd, ZaL, SVal.bd, bdL, Zbm, Chunk.bd, ZeV, Zbi, Za3, evQ, ZbR, Opd.ev, evL, ZbL, put, ZdO, ZdW, Zez, kEq, Nat.beq, Nat.ble, Nat.blt, and, or, not, cond_true, cond_false, Heap.push, Heap.find, Heap.set, Heap.drop, Za8, SVal.chunks, rdC, rdA, wrC, wrA, Zee, ZeN, Zaw, Chunk.len, isB, ZbB, Zbn, Res.ev, RV.ev, ZeH, Zbr, ZbI, Zcb, Zcd, Zb6, Zca, Zb4, Zev, Zeo, Zb0, Zef, Zbs, Zbu, Zcc, Zbj, Zbw, ZeJ, Zb3, Za2, kap, Zet, SVal.ren, SAddr.ren, ZaR, ZbT, Chunk.ren, ZaS, Zbp, AOp.looks, ZeG, Zel, ZeF, slo, ZbA, Zbc, Zbz, List.length_cons, List.length_nil, List.cons_append, List.nil_append, List.append_nil, Nat.reduceAdd, Nat.reduceSub, Nat.add_zero, Nat.zero_add, Bool.and_true, Bool.true_and, Bool.and_false, Bool.false_and, Bool.or_false, Bool.not_false, Bool.not_true, ZeB, Option.getD, List.set]
  refine fun q hq => ⟨fun h => ?_, fun h => ⟨by omega, rfl, rfl, rfl, by omega, fun c' hc => ?_⟩⟩
  · obtain ⟨rfl, rfl⟩ := hq h
    obtain rfl := List.eq_nil_of_length_eq_zero hl
    refine ZwZ [] [.ints .u8 0 []] rfl rfl rfl (hK 0 (Nat.le_refl _)) ?_ ?_ ?_ ?_ ?_
    all_goals (first | rfl | trivial | (dsimp only [ZaV, Zbl, Zbk, Zbm, bdL, Chunk.bd, SVal.bd, tau, Zed, ZbF, SVal.ren, SAddr.ren, ZaR, ZbT, Chunk.ren, Heap.find, Za8, ZbL, Nat.beq, cond_true, cond_false, Heap.push, Heap.drop, Heap.set, Zb4, Zca, List.map]; (repeat' apply And.intro) <;> first | rfl | trivial | decide | omega))
  · simp only [Nat.zero_add, List.drop_zero, List.take_of_length_le (Nat.le_of_eq hl)] at *
    refine Zcs [(1, 2)] rfl (hK c' hc) ?_ ?_ ?_ ?_ ?_
    all_goals (first | rfl | trivial | (dsimp only [ZaV, Zbl, Zbk, Zbm, bdL, Chunk.bd, SVal.bd, tau, Zed, ZbF, SVal.ren, SAddr.ren, ZaR, ZbT, Chunk.ren, Heap.find, Za8, ZbL, Nat.beq, cond_true, cond_false, Heap.push, Heap.drop, Heap.set, Zb4, Zca, List.map]; (repeat' apply And.intro) <;> first | rfl | trivial | decide | omega))
end Go.Proofs.Ytinjdimejijabaa

namespace Go.Proofs.Ytinjdimejijabaa
open Go.Sx
def Zym : Con := ⟨87, ZR1, [], [.ints .u8 0 []], []⟩
def S41 : Sx.ZjV := fun args H K => ∃ w m c xs v n, args = [.slice ⟨0,0,0,1⟩ m c, .int .u64 v, .int .i64 n] /\ H = ⟨1,[(0,some ⟨w,[.ints .u8 m xs],0⟩)]⟩ /\ xs.length = m /\ m <= 1000000 /\ 0 <= v /\ v < 2^64 /\
  ∀ c', m + (min n 64).toNat <= c' -> K (.slice ⟨1,0,0,1⟩ (m + (min n 64).toNat) c') ⟨2,[(1,some ⟨true,[.ints .u8 (m + (min n 64).toNat) (xs ++ ZdN v (min n 64).toNat)],c'-(m + (min n 64).toNat)⟩),(0,some ⟨w,[.ints .u8 m xs],0⟩)]⟩
theorem s41 : Sound Try.prog 78 S41 := by
  have hΓ : Zbg Try.prog (ZbI [Zym]) := Zcn ⟨ZSa, trivial⟩
  refine Zcv hΓ ZAN ?_
  rintro _ _ K ⟨w, m, c, xs, v, n, rfl, rfl, hl, hn, hv, hv', hK⟩
  refine ⟨rfl, fun w0 fp ρi => ?_⟩
  dsimp only [c41, Zym, ZaL, SVal.bd, bdL, Zbm, Chunk.bd, ZaL, SVal.bd, bdL, Zbm, Chunk.bd, ZeV, Zbi, Za3, evQ, ZbR, Opd.ev, evL, ZbL, put, ZdO, ZdW, Zez, kEq, Nat.beq, Nat.ble, Nat.blt, and, or, not, cond_true, cond_false, Heap.push, Heap.find, Heap.set, Heap.drop, Za8, SVal.chunks, rdC, rdA, wrC, wrA, Zee, ZeN, Zaw, Chunk.len, isB, ZbB, Zbn, Res.ev, RV.ev, ZeH, Zbr, ZbI, Zcb, Zcd, Zb6, Zca, Zb4, Zev, Zeo, Zb0, Zef, Zbs, Zbu, Zcc, Zbj, Zbw, ZeJ, Zb3, Za2, kap, Zet, SVal.ren, SAddr.ren, ZaR, ZbT, Chunk.ren, ZaS, Zbp, AOp.looks, ZeG, Zel, ZeF, slo, ZbA, Zbc, Zbz, List.length_cons, List.length_nil, List.cons_append, List.nil_append, List.append_nil, Nat.reduceAdd, Nat.reduceSub, Nat.add_zero, Nat.zero_add, Bool.and_true, Bool.true_and, Bool.and_false, Bool.false_and, Bool.or_false, Bool.not_false, Bool.not_true, ZeB, Option.getD, List.set]
  refine ⟨Nat.le_of_eq (Nat.zero_add m), _, _, _, _, rfl, rfl, ?_, ?_, fun c' hc => ?_⟩
  · simp [hl]
  · omega
  dsimp only [ZaL, SVal.bd, bdL, Zbm, Chunk.bd, ZaL, SVal.bd, bdL, Zbm, Chunk.bd, ZeV, Zbi, Za3, evQ, ZbR, Opd.ev, evL, ZbL, put, ZdO, ZdW, Zez, kEq, Nat.beq, Nat.ble, Nat.blt, and, or, not, cond_true, cond_false, Heap.push, Heap.find, Heap.set, Heap.drop, Za8, SVal.chunks, rdC, rdA, wrC, wrA, Zee, ZeN, Zaw, Chunk.len, isB, ZbB, Zbn, Res.ev, RV.ev, ZeH, Zbr, ZbI, Zcb, Zcd, Zb6, Zca, Zb4, Zev, Zeo, Zb0, Zef, Zbs, Zbu, Zcc, Zbj, Zbw, ZeJ, Zb3, Za2, kap, Zet, SVal.ren, SAddr.ren, ZaR, ZbT, Chunk.ren, ZaS, Zbp, AOp.looks, ZeG, Zel, ZeF, slo, ZbA, Zbc, Zbz, List.length_cons, List.length_nil, List.cons_append, List.nil_append, List.append_nil, Nat.reduceAdd, Nat.reduceSub, Nat.add_zero, Nat.zero_add, Bool.and_true, Bool.true_and, Bool.and_false, Bool.false_and, Bool.or_false, Bool.not_false, Bool.not_true, ZeB, Option.getD, List.set]
  simp only [List.drop_zero, List.take_of_length_le (Nat.le_of_eq hl)]
  refine ZeC hΓ (fun _ _ _ _ h => h) (S := {p : Nat × Nat // m + p.1 <= p.2 /\ p.1 <= (min n 64).toNat})
    (fun p => ([(0, some (.slice ⟨1,0,0,1⟩ (m + p.1.1) p.1.2)), (1, some (.int .u64 (v / 256 ^ p.1.1))), (10, some (.int .i64 (min n 64))), (11, some (.int .i64 p.1.1))],
      ⟨2,[(1,some ⟨true,[.ints .u8 (m + p.1.1) (xs ++ ZdN v p.1.1)],p.1.2-(m + p.1.1)⟩),(0,some ⟨w,[.ints .u8 m xs],0⟩)]⟩)) (fun p => (min n 64).toNat - p.1.1) ?_ ?_
  · have e0 : (if (64 : Int) < n then 64 else n) = min n 64 := by omega
    refine ⟨⟨(0, c'), by simpa using hc, Nat.zero_le _⟩, tau [], ?_⟩
    simp only [e0, ZdN, List.append_nil, Nat.add_zero, Int.pow_zero, Int.ediv_one]
    refine ZcL [] rfl ?_ ?_ ?_ ?_
    all_goals (first | rfl | trivial | (dsimp only [ZaV, Zbl, Zbk, Zbm, bdL, Chunk.bd, SVal.bd, tau, Zed, ZbF, SVal.ren, SAddr.ren, ZaR, ZbT, Chunk.ren, Heap.find, Za8, ZbL, Nat.beq, cond_true, cond_false, Heap.push, Heap.drop, Heap.set, Zb4, Zca, List.map]; (repeat' apply And.intro) <;> first | rfl | trivial | decide | omega))
  · rintro ⟨⟨i, c1⟩, hc1, hi⟩
    dsimp only at hc1 hi
    dsimp only [ZBz, ZaL, SVal.bd, bdL, Zbm, Chunk.bd, ZaL, SVal.bd, bdL, Zbm, Chunk.bd, ZeV, Zbi, Za3, evQ, ZbR, Opd.ev, evL, ZbL, put, ZdO, ZdW, Zez, kEq, Nat.beq, Nat.ble, Nat.blt, and, or, not, cond_true, cond_false, Heap.push, Heap.find, Heap.set, Heap.drop, Za8, SVal.chunks, rdC, rdA, wrC, wrA, Zee, ZeN, Zaw, Chunk.len, isB, ZbB, Zbn, Res.ev, RV.ev, ZeH, Zbr, ZbI, Zcb, Zcd, Zb6, Zca, Zb4, Zev, Zeo, Zb0, Zef, Zbs, Zbu, Zcc, Zbj, Zbw, ZeJ, Zb3, Za2, kap, Zet, SVal.ren, SAddr.ren, ZaR, ZbT, Chunk.ren, ZaS, Zbp, AOp.looks, ZeG, Zel, ZeF, slo, ZbA, Zbc, Zbz, List.length_cons, List.length_nil, List.cons_append, List.nil_append, List.append_nil, Nat.reduceAdd, Nat.reduceSub, Nat.add_zero, Nat.zero_add, Bool.and_true, Bool.true_and, Bool.and_false, Bool.false_and, Bool.or_false, Bool.not_false, Bool.not_true, ZeB, Option.getD, List.set]
    refine ⟨fun h => ?_, fun h => ?_⟩
    · have hlt : (i : Int) < min n 64 := of_decide_eq_true h
      refine ⟨Nat.le_refl _, rfl, by simp [ZbU, hl], by omega, by omega, fun c2 hc2 => ⟨by decide, ⟨(i + 1, c2), by dsimp only; omega, by dsimp only; omega⟩, tau [(1, 3)], by dsimp only; omega, ?_⟩⟩
      have e1 : IntKind.i64.wrap (↑i + 1) = ((i + 1 : Nat) : Int) := wrap_i64 (by omega) (by omega)
      have e2 : ZG9 IntKind.u64 (v / 256 ^ i) 8 = v / 256 ^ (i + 1) := by
        rw [ZxO _ _ _ (by decide), Int.ediv_ediv_of_nonneg (Int.pow_nonneg (by omega)), Int.pow_succ]; rfl
      have e3 : xs ++ ZdN v i ++ List.take 1 (List.drop 0 [IntKind.u8.wrap (v / 256 ^ i)]) = xs ++ ZdN v (i + 1) := by
        simp [ZdN, wrap_u8]
      simp only [e1, e2, e3]
      refine ZcL [(1, 3)] rfl ?_ ?_ ?_ ?_
      all_goals (first | rfl | trivial | (dsimp only [ZaV, Zbl, Zbk, Zbm, bdL, Chunk.bd, SVal.bd, tau, Zed, ZbF, SVal.ren, SAddr.ren, ZaR, ZbT, Chunk.ren, Heap.find, Za8, ZbL, Nat.beq, cond_true, cond_false, Heap.push, Heap.drop, Heap.set, Zb4, Zca, List.map]; (repeat' apply And.intro) <;> first | rfl | trivial | decide | omega))
    · have hge : ¬ (i : Int) < min n 64 := of_decide_eq_false h
      have hik : i = (min n 64).toNat := by omega
      subst hik
      refine Zcs [] rfl (hK c1 hc1) ?_ ?_ ?_ ?_ ?_
      all_goals (first | rfl | trivial | (dsimp only [ZaV, Zbl, Zbk, Zbm, bdL, Chunk.bd, SVal.bd, tau, Zed, ZbF, SVal.ren, SAddr.ren, ZaR, ZbT, Chunk.ren, Heap.find, Za8, ZbL, Nat.beq, cond_true, cond_false, Heap.push, Heap.drop, Heap.set, Zb4, Zca, List.map]; (repeat' apply And.intro) <;> first | rfl | trivial | decide | omega))
end Go.Proofs.Ytinjdimejijabaa
