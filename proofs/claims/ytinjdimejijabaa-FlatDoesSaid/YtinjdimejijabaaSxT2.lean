/- Two parts of the proof. -/
import Derived.Test.YtinjdimejijabaaSxNum
import Derived.Test.YtinjdimejijabaaSxBitsC
import Derived.Test.YtinjdimejijabaaSxHelp
set_option linter.unusedVariables false
set_option linter.unusedSimpArgs false
namespace Go.Proofs.Ytinjdimejijabaa
open Go.Sx
def ZQi : Sx.Zji := fun args H K => ∃ w n c xs, args = [.slice ⟨0,0,0,1⟩ n c] /\ H = ⟨1,[(0,some ⟨w,[.ints .u8 n xs],0⟩)]⟩ /\ xs.length = n /\ n <= 1000000000 /\ ∀ c', n <= c' -> K (.slice ⟨1,0,0,1⟩ n c') ⟨2,[(1,some ⟨true,[.ints .u8 n xs],c'-n⟩),(0,some ⟨w,[.ints .u8 n xs],0⟩)]⟩
theorem ZQs : Sound Try.prog 87 ZQi := by
  refine Zck (Γ := ZbE []) (Zcc trivial) ZyX ?_
  rintro _ _ K ⟨w, n, c, xs, rfl, rfl, hl, hn, hK⟩
  refine ⟨rfl, fun w0 fp ρi => ?_⟩
  dsimp only [ZO1, ZaK, SVal.bd, bdL, Zbh, Chunk.bd, ZaK, SVal.bd, bdL, Zbh, Chunk.bd, Zex, Zbc, Za1, evQ, Zby, Opd.ev, evL, ZbG, put, Zdw, ZdB, Zea, kEq, Nat.beq, Nat.ble, Nat.blt, and, or, not, cond_true, cond_false, Heap.push, Heap.find, Heap.set, Heap.drop, Za4, SVal.chunks, rdC, rdA, wrC, wrA, ZdR, Zeq, Zav, Chunk.len, isB, Zbw, Zbj, Res.ev, RV.ev, Zel, Zbm, ZbE, Zb6, Zb8, ZbY, Zb5, ZbW, Zd8, Zd1, ZbR, ZdS, Zbn, Zbp, Zb7, Zbd, Zbr, Zen, ZbV, Za0, kap, Zd6, SVal.ren, SAddr.ren, ZaQ, ZbM, Chunk.ren, ZaS, Zbl, AOp.looks, Zec, ZdY, Zd9, slo, Zbs, Za6, Zbk, List.length_cons, List.length_nil, List.cons_append, List.nil_append, List.append_nil, Nat.reduceAdd, Nat.reduceSub, Nat.add_zero, Nat.zero_add, Bool.and_true, Bool.true_and, Bool.and_false, Bool.false_and, Bool.or_false, Bool.not_false, Bool.not_true, Zee, Option.getD, List.set]
  refine fun q hq => ⟨fun h => ?_, fun h => ⟨by omega, rfl, rfl, rfl, by omega, fun c' hc => ?_⟩⟩
  · obtain ⟨rfl, rfl⟩ := hq h
    obtain rfl := List.eq_nil_of_length_eq_zero hl
    refine Zxw [] [.ints .u8 0 []] rfl rfl rfl (hK 0 (Nat.le_refl _)) ?_ ?_ ?_ ?_ ?_
    all_goals (first | rfl | trivial | (dsimp only [ZaU, Zbg, Zbe, Zbh, bdL, Chunk.bd, SVal.bd, tau, ZdQ, ZbB, SVal.ren, SAddr.ren, ZaQ, ZbM, Chunk.ren, Heap.find, Za4, ZbG, Nat.beq, cond_true, cond_false, Heap.push, Heap.drop, Heap.set, ZbW, Zb5, List.map]; (repeat' apply And.intro) <;> first | rfl | trivial | decide | omega))
  · simp only [Nat.zero_add, List.drop_zero, List.take_of_length_le (Nat.le_of_eq hl)] at *
    refine Zci [(1, 2)] rfl (hK c' hc) ?_ ?_ ?_ ?_ ?_
    all_goals (first | rfl | trivial | (dsimp only [ZaU, Zbg, Zbe, Zbh, bdL, Chunk.bd, SVal.bd, tau, ZdQ, ZbB, SVal.ren, SAddr.ren, ZaQ, ZbM, Chunk.ren, Heap.find, Za4, ZbG, Nat.beq, cond_true, cond_false, Heap.push, Heap.drop, Heap.set, ZbW, Zb5, List.map]; (repeat' apply And.intro) <;> first | rfl | trivial | decide | omega))
end Go.Proofs.Ytinjdimejijabaa

namespace Go.Proofs.Ytinjdimejijabaa
open Go.Sx
def ZyH : Con := ⟨87, ZQi, [], [.ints .u8 0 []], []⟩
def S41 : Sx.Zji := fun args H K => ∃ w m c xs v n, args = [.slice ⟨0,0,0,1⟩ m c, .int .u64 v, .int .i64 n] /\ H = ⟨1,[(0,some ⟨w,[.ints .u8 m xs],0⟩)]⟩ /\ xs.length = m /\ m <= 1000000 /\ 0 <= v /\ v < 2^64 /\
  ∀ c', m + (min n 64).toNat <= c' -> K (.slice ⟨1,0,0,1⟩ (m + (min n 64).toNat) c') ⟨2,[(1,some ⟨true,[.ints .u8 (m + (min n 64).toNat) (xs ++ Zdv v (min n 64).toNat)],c'-(m + (min n 64).toNat)⟩),(0,some ⟨w,[.ints .u8 m xs],0⟩)]⟩
theorem s41 : Sound Try.prog 78 S41 := by
  have hΓ : Za9 Try.prog (ZbE [ZyH]) := Zcc ⟨ZQs, trivial⟩
  refine Zck hΓ ZA2 ?_
  rintro _ _ K ⟨w, m, c, xs, v, n, rfl, rfl, hl, hn, hv, hv', hK⟩
  refine ⟨rfl, fun w0 fp ρi => ?_⟩
  dsimp only [c41, ZyH, ZaK, SVal.bd, bdL, Zbh, Chunk.bd, ZaK, SVal.bd, bdL, Zbh, Chunk.bd, Zex, Zbc, Za1, evQ, Zby, Opd.ev, evL, ZbG, put, Zdw, ZdB, Zea, kEq, Nat.beq, Nat.ble, Nat.blt, and, or, not, cond_true, cond_false, Heap.push, Heap.find, Heap.set, Heap.drop, Za4, SVal.chunks, rdC, rdA, wrC, wrA, ZdR, Zeq, Zav, Chunk.len, isB, Zbw, Zbj, Res.ev, RV.ev, Zel, Zbm, ZbE, Zb6, Zb8, ZbY, Zb5, ZbW, Zd8, Zd1, ZbR, ZdS, Zbn, Zbp, Zb7, Zbd, Zbr, Zen, ZbV, Za0, kap, Zd6, SVal.ren, SAddr.ren, ZaQ, ZbM, Chunk.ren, ZaS, Zbl, AOp.looks, Zec, ZdY, Zd9, slo, Zbs, Za6, Zbk, List.length_cons, List.length_nil, List.cons_append, List.nil_append, List.append_nil, Nat.reduceAdd, Nat.reduceSub, Nat.add_zero, Nat.zero_add, Bool.and_true, Bool.true_and, Bool.and_false, Bool.false_and, Bool.or_false, Bool.not_false, Bool.not_true, Zee, Option.getD, List.set]
  refine ⟨Nat.le_of_eq (Nat.zero_add m), _, _, _, _, rfl, rfl, ?_, ?_, fun c' hc => ?_⟩
  · simp [hl]
  · omega
  dsimp only [ZaK, SVal.bd, bdL, Zbh, Chunk.bd, ZaK, SVal.bd, bdL, Zbh, Chunk.bd, Zex, Zbc, Za1, evQ, Zby, Opd.ev, evL, ZbG, put, Zdw, ZdB, Zea, kEq, Nat.beq, Nat.ble, Nat.blt, and, or, not, cond_true, cond_false, Heap.push, Heap.find, Heap.set, Heap.drop, Za4, SVal.chunks, rdC, rdA, wrC, wrA, ZdR, Zeq, Zav, Chunk.len, isB, Zbw, Zbj, Res.ev, RV.ev, Zel, Zbm, ZbE, Zb6, Zb8, ZbY, Zb5, ZbW, Zd8, Zd1, ZbR, ZdS, Zbn, Zbp, Zb7, Zbd, Zbr, Zen, ZbV, Za0, kap, Zd6, SVal.ren, SAddr.ren, ZaQ, ZbM, Chunk.ren, ZaS, Zbl, AOp.looks, Zec, ZdY, Zd9, slo, Zbs, Za6, Zbk, List.length_cons, List.length_nil, List.cons_append, List.nil_append, List.append_nil, Nat.reduceAdd, Nat.reduceSub, Nat.add_zero, Nat.zero_add, Bool.and_true, Bool.true_and, Bool.and_false, Bool.false_and, Bool.or_false, Bool.not_false, Bool.not_true, Zee, Option.getD, List.set]
  simp only [List.drop_zero, List.take_of_length_le (Nat.le_of_eq hl)]
  refine Zef hΓ (fun _ _ _ _ h => h) (S := {p : Nat × Nat // m + p.1 <= p.2 /\ p.1 <= (min n 64).toNat})
    (fun p => ([(0, some (.slice ⟨1,0,0,1⟩ (m + p.1.1) p.1.2)), (1, some (.int .u64 (v / 256 ^ p.1.1))), (10, some (.int .i64 (min n 64))), (11, some (.int .i64 p.1.1))],
      ⟨2,[(1,some ⟨true,[.ints .u8 (m + p.1.1) (xs ++ Zdv v p.1.1)],p.1.2-(m + p.1.1)⟩),(0,some ⟨w,[.ints .u8 m xs],0⟩)]⟩)) (fun p => (min n 64).toNat - p.1.1) ?_ ?_
  · have e0 : (if (64 : Int) < n then 64 else n) = min n 64 := by omega
    refine ⟨⟨(0, c'), by simpa using hc, Nat.zero_le _⟩, tau [], ?_⟩
    simp only [e0, Zdv, List.append_nil, Nat.add_zero, Int.pow_zero, Int.ediv_one]
    refine ZcB [] rfl ?_ ?_ ?_ ?_
    all_goals (first | rfl | trivial | (dsimp only [ZaU, Zbg, Zbe, Zbh, bdL, Chunk.bd, SVal.bd, tau, ZdQ, ZbB, SVal.ren, SAddr.ren, ZaQ, ZbM, Chunk.ren, Heap.find, Za4, ZbG, Nat.beq, cond_true, cond_false, Heap.push, Heap.drop, Heap.set, ZbW, Zb5, List.map]; (repeat' apply And.intro) <;> first | rfl | trivial | decide | omega))
  · rintro ⟨⟨i, c1⟩, hc1, hi⟩
    dsimp only at hc1 hi
    dsimp only [ZBM, ZaK, SVal.bd, bdL, Zbh, Chunk.bd, ZaK, SVal.bd, bdL, Zbh, Chunk.bd, Zex, Zbc, Za1, evQ, Zby, Opd.ev, evL, ZbG, put, Zdw, ZdB, Zea, kEq, Nat.beq, Nat.ble, Nat.blt, and, or, not, cond_true, cond_false, Heap.push, Heap.find, Heap.set, Heap.drop, Za4, SVal.chunks, rdC, rdA, wrC, wrA, ZdR, Zeq, Zav, Chunk.len, isB, Zbw, Zbj, Res.ev, RV.ev, Zel, Zbm, ZbE, Zb6, Zb8, ZbY, Zb5, ZbW, Zd8, Zd1, ZbR, ZdS, Zbn, Zbp, Zb7, Zbd, Zbr, Zen, ZbV, Za0, kap, Zd6, SVal.ren, SAddr.ren, ZaQ, ZbM, Chunk.ren, ZaS, Zbl, AOp.looks, Zec, ZdY, Zd9, slo, Zbs, Za6, Zbk, List.length_cons, List.length_nil, List.cons_append, List.nil_append, List.append_nil, Nat.reduceAdd, Nat.reduceSub, Nat.add_zero, Nat.zero_add, Bool.and_true, Bool.true_and, Bool.and_false, Bool.false_and, Bool.or_false, Bool.not_false, Bool.not_true, Zee, Option.getD, List.set]
    refine ⟨fun h => ?_, fun h => ?_⟩
    · have hlt : (i : Int) < min n 64 := of_decide_eq_true h
      refine ⟨Nat.le_refl _, rfl, by simp [ZbN, hl], by omega, by omega, fun c2 hc2 => ⟨by decide, ⟨(i + 1, c2), by dsimp only; omega, by dsimp only; omega⟩, tau [(1, 3)], by dsimp only; omega, ?_⟩⟩
      have e1 : IntKind.i64.wrap (↑i + 1) = ((i + 1 : Nat) : Int) := wrap_i64 (by omega) (by omega)
      have e2 : ZGv IntKind.u64 (v / 256 ^ i) 8 = v / 256 ^ (i + 1) := by
        rw [Zyb _ _ _ (by decide), Int.ediv_ediv_of_nonneg (Int.pow_nonneg (by omega)), Int.pow_succ]; rfl
      have e3 : xs ++ Zdv v i ++ List.take 1 (List.drop 0 [IntKind.u8.wrap (v / 256 ^ i)]) = xs ++ Zdv v (i + 1) := by
        simp [Zdv, wrap_u8]
      simp only [e1, e2, e3]
      refine ZcB [(1, 3)] rfl ?_ ?_ ?_ ?_
      all_goals (first | rfl | trivial | (dsimp only [ZaU, Zbg, Zbe, Zbh, bdL, Chunk.bd, SVal.bd, tau, ZdQ, ZbB, SVal.ren, SAddr.ren, ZaQ, ZbM, Chunk.ren, Heap.find, Za4, ZbG, Nat.beq, cond_true, cond_false, Heap.push, Heap.drop, Heap.set, ZbW, Zb5, List.map]; (repeat' apply And.intro) <;> first | rfl | trivial | decide | omega))
    · have hge : ¬ (i : Int) < min n 64 := of_decide_eq_false h
      have hik : i = (min n 64).toNat := by omega
      subst hik
      refine Zci [] rfl (hK c1 hc1) ?_ ?_ ?_ ?_ ?_
      all_goals (first | rfl | trivial | (dsimp only [ZaU, Zbg, Zbe, Zbh, bdL, Chunk.bd, SVal.bd, tau, ZdQ, ZbB, SVal.ren, SAddr.ren, ZaQ, ZbM, Chunk.ren, Heap.find, Za4, ZbG, Nat.beq, cond_true, cond_false, Heap.push, Heap.drop, Heap.set, ZbW, Zb5, List.map]; (repeat' apply And.intro) <;> first | rfl | trivial | decide | omega))
end Go.Proofs.Ytinjdimejijabaa
