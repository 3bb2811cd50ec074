/- Part of the proof: SxT13. -/
import Derived.Test.YtinjdimejijabaaSxPlanC
import Derived.Test.YtinjdimejijabaaSxPlan
set_option linter.unusedVariables false
set_option linter.unusedSimpArgs false
namespace Go.Proofs.Ytinjdimejijabaa
open Go.Sx
def ZmU : Sx.ZgX := fun args H K => match args with
  | [.agg [.one (.int .i64 a), .one (.int .i64 b)], .int .i64 n] => noH H (K (.bool (decide (a <= n /\ n <= b))) ⟨0, []⟩)
  | _ => False
theorem ZnQ : Sound Try.prog 67 ZmU := by
  have hΓ : ZaZ Try.prog (Zcl []) := Zca trivial
  refine ZcJ hΓ Zjn ?_
  intro args H K h
  unfold ZmU at h
  split at h
  · rename_i a b n
    obtain ⟨rfl, hK⟩ := Zc2 h
    refine ⟨rfl, fun w0 fp ρi => ?_⟩
    dsimp only [Znx, Za7, SVal.bd, bdL, ZbK, Chunk.bd, Za7, SVal.bd, bdL, ZbK, Chunk.bd, Zjd, Zbk, Za4, evQ, ZbA, Opd.ev, evL, ZbD, put, ZeI, Zfj, Zg1, kEq, Nat.beq, Nat.ble, Nat.blt, and, or, not, cond_true, cond_false, Heap.push, Heap.find, Heap.set, Heap.drop, Zbd, SVal.chunks, ↓Zba, ↓ZaQ, ↓ZaS, ↓Zaz, ↓ZaR, ↓Za8, ↓ZaL, ↓ZaM, ↓Zav, ↓Zay, ↓Zak, ↓Zax, ↓Zal, ↓ZaE, ↓Zam, ↓ZaD, ↓Zan, ↓Zbb, ↓ZaT, ↓ZaV, ↓ZaA, ↓ZaU, ↓Za9, ↓ZaN, ↓ZaO, ↓Zaw, Zba, ZaQ, ZaS, Zaz, ZaR, Za8, ZaL, ZaM, Zav, Zay, Zak, Zax, Zal, ZaE, Zam, ZaD, Zan, Zbb, ZaT, ZaV, ZaA, ZaU, Za9, ZaN, ZaO, Zaw, Zac, Chunk.len, isB, Zcs, ZbM, Res.ev, RV.ev, ZhO, ZbU, Zcl, Zd6, Zea, Zc7, Zdl, Zcz, Zg0, ZgN, ZcL, Zgm, ZbX, ZbY, Zd9, Zbl, Zb4, Zh8, ZcW, Za1, kap, ZgZ, SVal.ren, SAddr.ren, Zai, Zb3, Chunk.ren, Zau, ZbS, AOp.looks, Zh3, Zic, Zjz, slo, Zcf, ZbJ, Zb9, List.length_cons, List.length_nil, List.cons_append, List.nil_append, List.append_nil, Nat.reduceAdd, Nat.reduceSub, Nat.add_zero, Nat.zero_add, Bool.and_true, Bool.true_and, Bool.and_false, Bool.false_and, Bool.or_false, Bool.not_false, Bool.not_true, Zg7, Option.getD, List.set]
    refine ZjL (by first | exact True.intro | ((repeat' apply And.intro) <;> first | exact True.intro | rfl)) (ZlN [] rfl hK (by rw [Bool.decide_and]) ?_ ?_ ?_)
    all_goals (first | rfl | trivial | (dsimp only [Zar, Zbj, Za6, ZbK, bdL, Chunk.bd, SVal.bd, tau, ZeU, Zbm, SVal.ren, SAddr.ren, Zai, Zb3, Chunk.ren, Heap.find, Zbd, ZbD, Nat.beq, cond_true, cond_false, Heap.push, Heap.drop, Heap.set, Zcz, Zdl, List.map]; (repeat' apply And.intro) <;> first | rfl | trivial | decide | omega))
  · exact h.elim
def Zjl : Con := ⟨67, ZmU, [], [], []⟩
def ZmJ : Sx.ZgX := fun args H K => match args with
  | [a] => ZbV a fun p => noH H (K (.bool p.shaped) ⟨0, []⟩)
  | _ => False
theorem Znn : Sound Try.prog 68 ZmJ := by
  have hΓ : ZaZ Try.prog (Zcl [Zjl]) := Zca ⟨ZnQ, trivial⟩
  refine ZcJ hΓ Zjo ?_
  intro args H K h
  unfold ZmJ at h
  split at h
  · obtain ⟨cores, banks, pages, lines, arity, minor, major, ns, nw, fs, fw, met, queue, kind, key, tag, rfl, h⟩ := Zb5 h
    obtain ⟨rfl, hK⟩ := Zc2 h
    refine ⟨rfl, fun w0 fp ρi => ?_⟩
    dsimp only [Zny, Zjl, ZmU, noH, Za7, SVal.bd, bdL, ZbK, Chunk.bd, Za7, SVal.bd, bdL, ZbK, Chunk.bd, Zjd, Zbk, Za4, evQ, ZbA, Opd.ev, evL, ZbD, put, ZeI, Zfj, Zg1, kEq, Nat.beq, Nat.ble, Nat.blt, and, or, not, cond_true, cond_false, Heap.push, Heap.find, Heap.set, Heap.drop, Zbd, SVal.chunks, ↓Zba, ↓ZaQ, ↓ZaS, ↓Zaz, ↓ZaR, ↓Za8, ↓ZaL, ↓ZaM, ↓Zav, ↓Zay, ↓Zak, ↓Zax, ↓Zal, ↓ZaE, ↓Zam, ↓ZaD, ↓Zan, ↓Zbb, ↓ZaT, ↓ZaV, ↓ZaA, ↓ZaU, ↓Za9, ↓ZaN, ↓ZaO, ↓Zaw, Zba, ZaQ, ZaS, Zaz, ZaR, Za8, ZaL, ZaM, Zav, Zay, Zak, Zax, Zal, ZaE, Zam, ZaD, Zan, Zbb, ZaT, ZaV, ZaA, ZaU, Za9, ZaN, ZaO, Zaw, Zac, Chunk.len, isB, Zcs, ZbM, Res.ev, RV.ev, ZhO, ZbU, Zcl, Zd6, Zea, Zc7, Zdl, Zcz, Zg0, ZgN, ZcL, Zgm, ZbX, ZbY, Zd9, Zbl, Zb4, Zh8, ZcW, Za1, kap, ZgZ, SVal.ren, SAddr.ren, Zai, Zb3, Chunk.ren, Zau, ZbS, AOp.looks, Zh3, Zic, Zjz, slo, Zcf, ZbJ, Zb9, List.length_cons, List.length_nil, List.cons_append, List.nil_append, List.append_nil, Nat.reduceAdd, Nat.reduceSub, Nat.add_zero, Nat.zero_add, Bool.and_true, Bool.true_and, Bool.and_false, Bool.false_and, Bool.or_false, Bool.not_false, Bool.not_true, Zg7, Option.getD, List.set]
    refine ZjL (by first | exact True.intro | ((repeat' apply And.intro) <;> first | exact True.intro | rfl)) (ZjL (by first | exact True.intro | ((repeat' apply And.intro) <;> first | exact True.intro | rfl)) (ZjL (by first | exact True.intro | ((repeat' apply And.intro) <;> first | exact True.intro | rfl)) (ZlN [] rfl hK ?_ ?_ ?_ ?_)))
    · simp only [PlanV.shaped]
      rw [Bool.eq_iff_iff]
      simp only [decide_eq_true_eq, Bool.and_eq_true]
      omega
    all_goals (first | rfl | trivial | (dsimp only [Zar, Zbj, Za6, ZbK, bdL, Chunk.bd, SVal.bd, tau, ZeU, Zbm, SVal.ren, SAddr.ren, Zai, Zb3, Chunk.ren, Heap.find, Zbd, ZbD, Nat.beq, cond_true, cond_false, Heap.push, Heap.drop, Heap.set, Zcz, Zdl, List.map]; (repeat' apply And.intro) <;> first | rfl | trivial | decide | omega))
  · exact h.elim
def Zge : Con := ⟨68, ZmJ, [], [], []⟩
def ZmI : Sx.ZgX := fun args H K => match args with
  | [a] => ZbV a fun p => noH H (∀ c, p.widths.length <= c -> K (.slice ⟨0,0,0,1⟩ p.widths.length c) ⟨1, [(0, some ⟨true, [.ints .i64 p.widths.length p.widths], c - p.widths.length⟩)]⟩)
  | _ => False
theorem Znm : Sound Try.prog 49 ZmI := by
  have hΓ : ZaZ Try.prog (Zcl [Zge]) := Zca ⟨Znn, trivial⟩
  refine ZcJ hΓ Zjm ?_
  intro args H K h
  unfold ZmI at h
  split at h
  · obtain ⟨cores, banks, pages, lines, arity, minor, major, ns, nw, fs, fw, met, queue, kind, key, tag, rfl, h⟩ := Zb5 h
    obtain ⟨rfl, hK⟩ := Zc2 h
    generalize hp : (PlanV.mk cores banks pages lines arity minor major ns nw fs fw met queue kind key tag) = p at hK
    refine ⟨rfl, fun w0 fp ρi => ?_⟩
    dsimp only [Znw, Zge, ZmJ, ZbV, noH, Za7, SVal.bd, bdL, ZbK, Chunk.bd, Za7, SVal.bd, bdL, ZbK, Chunk.bd, Zjd, Zbk, Za4, evQ, ZbA, Opd.ev, evL, ZbD, put, ZeI, Zfj, Zg1, kEq, Nat.beq, Nat.ble, Nat.blt, and, or, not, cond_true, cond_false, Heap.push, Heap.find, Heap.set, Heap.drop, Zbd, SVal.chunks, ↓Zba, ↓ZaQ, ↓ZaS, ↓Zaz, ↓ZaR, ↓Za8, ↓ZaL, ↓ZaM, ↓Zav, ↓Zay, ↓Zak, ↓Zax, ↓Zal, ↓ZaE, ↓Zam, ↓ZaD, ↓Zan, ↓Zbb, ↓ZaT, ↓ZaV, ↓ZaA, ↓ZaU, ↓Za9, ↓ZaN, ↓ZaO, ↓Zaw, Zba, ZaQ, ZaS, Zaz, ZaR, Za8, ZaL, ZaM, Zav, Zay, Zak, Zax, Zal, ZaE, Zam, ZaD, Zan, Zbb, ZaT, ZaV, ZaA, ZaU, Za9, ZaN, ZaO, Zaw, Zac, Chunk.len, isB, Zcs, ZbM, Res.ev, RV.ev, ZhO, ZbU, Zcl, Zd6, Zea, Zc7, Zdl, Zcz, Zg0, ZgN, ZcL, Zgm, ZbX, ZbY, Zd9, Zbl, Zb4, Zh8, ZcW, Za1, kap, ZgZ, SVal.ren, SAddr.ren, Zai, Zb3, Chunk.ren, Zau, ZbS, AOp.looks, Zh3, Zic, Zjz, slo, Zcf, ZbJ, Zb9, List.length_cons, List.length_nil, List.cons_append, List.nil_append, List.append_nil, Nat.reduceAdd, Nat.reduceSub, Nat.add_zero, Nat.zero_add, Bool.and_true, Bool.true_and, Bool.and_false, Bool.false_and, Bool.or_false, Bool.not_false, Bool.not_true, Zg7, Option.getD, List.set]
    rw [hp]
    refine ⟨fun h => ?_, fun h => ?_⟩
    · have hs : ¬ p.shaped = true := by rw [Zmv h]; exact Bool.false_ne_true
      have hw : p.widths = [] := by unfold PlanV.widths; rw [if_neg hs]
      rw [hw] at hK
      replace hK := hK 0 (Nat.zero_le _)
      simp only [List.length_nil, Nat.sub_self] at hK
      refine ZkO [(0, 1)] [.ints .i64 0 []] rfl rfl rfl hK ?_ ?_ ?_ ?_ ?_
      all_goals (first | rfl | trivial | (dsimp only [Zar, Zbj, Za6, ZbK, bdL, Chunk.bd, SVal.bd, tau, ZeU, Zbm, SVal.ren, SAddr.ren, Zai, Zb3, Chunk.ren, Heap.find, Zbd, ZbD, Nat.beq, cond_true, cond_false, Heap.push, Heap.drop, Heap.set, Zcz, Zdl, List.map]; (repeat' apply And.intro) <;> first | rfl | trivial | decide | omega))
    · have hs : p.shaped = true := Zmw h
      have W := PlanV.wid hs
      have hsh := of_decide_eq_true hs
      generalize hws : p.widths = ws at *
      subst hp
      dsimp only at W hsh
      refine Zi3 hΓ (fun _ _ _ _ h => h) (S := Unit ⊕ {q : Nat × Nat // 1 <= q.1 /\ q.1 < ws.length /\ q.1 <= q.2})
        (fun s => match s with
          | .inl _ => ([(1, some (.ptr ⟨0,0,0,1⟩ 46)), (2, some .nilslice), (3, some (.int .i64 pages))], ⟨1, [(0, some ⟨true, [.one (.int .i64 cores), .one (.int .i64 banks), .one (.int .i64 pages), .one (.int .i64 lines), .one (.int .i64 arity), .one (.int .i64 minor), .one (.int .u64 major), .one (.int .i64 ns), .one (.int .i64 nw), .one (.int .i64 fs), .one (.int .i64 fw), .one (.int .i64 met), .one (.int .i64 queue), .one (.int .i64 kind), .ints .u8 16 key, .ints .u8 16 tag], 0⟩)]⟩)
          | .inr q => ([(1, some (.ptr ⟨0,0,0,1⟩ 46)), (2, some (.slice ⟨1,0,0,1⟩ q.1.1 q.1.2)), (3, some (.int .i64 (ws.getD q.1.1 0)))], ⟨2, [(1, some ⟨true, [.ints .i64 q.1.1 (ws.take q.1.1)], q.1.2 - q.1.1⟩), (0, some ⟨true, [.one (.int .i64 cores), .one (.int .i64 banks), .one (.int .i64 pages), .one (.int .i64 lines), .one (.int .i64 arity), .one (.int .i64 minor), .one (.int .u64 major), .one (.int .i64 ns), .one (.int .i64 nw), .one (.int .i64 fs), .one (.int .i64 fw), .one (.int .i64 met), .one (.int .i64 queue), .one (.int .i64 kind), .ints .u8 16 key, .ints .u8 16 tag], 0⟩)]⟩))
        (fun s => match s with
          | .inl _ => 9
          | .inr q => 8 - q.1.1) ?_ ?_
      · refine ⟨.inl (), tau [], ?_⟩
        refine ZfN [] rfl ?_ ?_ ?_ ?_
        all_goals (first | rfl | trivial | (dsimp only [Zar, Zbj, Za6, ZbK, bdL, Chunk.bd, SVal.bd, tau, ZeU, Zbm, SVal.ren, SAddr.ren, Zai, Zb3, Chunk.ren, Heap.find, Zbd, ZbD, Nat.beq, cond_true, cond_false, Heap.push, Heap.drop, Heap.set, Zcz, Zdl, List.map]; (repeat' apply And.intro) <;> first | rfl | trivial | decide | omega))
      · rintro (_ | ⟨⟨i, c⟩, hi1, hi2, hc⟩)
        · dsimp only
          dsimp only [Zhv, Za7, SVal.bd, bdL, ZbK, Chunk.bd, Za7, SVal.bd, bdL, ZbK, Chunk.bd, Zjd, Zbk, Za4, evQ, ZbA, Opd.ev, evL, ZbD, put, ZeI, Zfj, Zg1, kEq, Nat.beq, Nat.ble, Nat.blt, and, or, not, cond_true, cond_false, Heap.push, Heap.find, Heap.set, Heap.drop, Zbd, SVal.chunks, ↓Zba, ↓ZaQ, ↓ZaS, ↓Zaz, ↓ZaR, ↓Za8, ↓ZaL, ↓ZaM, ↓Zav, ↓Zay, ↓Zak, ↓Zax, ↓Zal, ↓ZaE, ↓Zam, ↓ZaD, ↓Zan, ↓Zbb, ↓ZaT, ↓ZaV, ↓ZaA, ↓ZaU, ↓Za9, ↓ZaN, ↓ZaO, ↓Zaw, Zba, ZaQ, ZaS, Zaz, ZaR, Za8, ZaL, ZaM, Zav, Zay, Zak, Zax, Zal, ZaE, Zam, ZaD, Zan, Zbb, ZaT, ZaV, ZaA, ZaU, Za9, ZaN, ZaO, Zaw, Zac, Chunk.len, isB, Zcs, ZbM, Res.ev, RV.ev, ZhO, ZbU, Zcl, Zd6, Zea, Zc7, Zdl, Zcz, Zg0, ZgN, ZcL, Zgm, ZbX, ZbY, Zd9, Zbl, Zb4, Zh8, ZcW, Za1, kap, ZgZ, SVal.ren, SAddr.ren, Zai, Zb3, Chunk.ren, Zau, ZbS, AOp.looks, Zh3, Zic, Zjz, slo, Zcf, ZbJ, Zb9, List.length_cons, List.length_nil, List.cons_append, List.nil_append, List.append_nil, Nat.reduceAdd, Nat.reduceSub, Nat.add_zero, Nat.zero_add, Bool.and_true, Bool.true_and, Bool.and_false, Bool.false_and, Bool.or_false, Bool.not_false, Bool.not_true, Zg7, Option.getD, List.set]
          have e0 : List.take 1 (List.drop 0 [pages]) = [pages] := rfl
          simp only [e0]
          refine ⟨by omega, by omega, fun c hc => ⟨fun h => ?_, fun h => ?_⟩⟩
          · have h1 : pages = 1 := eq_of_beq h
            have hl1 : ws.length = 1 := by
              have := W.len1
              by_cases hlt : 0 + 1 < ws.length
              · have := W.big 0 hlt
                have := W.first
                omega
              · omega
            have hws1 : ws = [pages] := by
              have := W.first
              match ws, hl1 with
              | [x], _ => simp only [List.getD_cons_zero] at this; rw [this]
            rw [hws1] at hK
            replace hK := hK c (by simpa using hc)
            simp only [List.length_singleton] at hK
            refine ZcC [(0, 2)] rfl hK ?_ ?_ ?_ ?_ ?_
            all_goals (first | rfl | trivial | (dsimp only [Zar, Zbj, Za6, ZbK, bdL, Chunk.bd, SVal.bd, tau, ZeU, Zbm, SVal.ren, SAddr.ren, Zai, Zb3, Chunk.ren, Heap.find, Zbd, ZbD, Nat.beq, cond_true, cond_false, Heap.push, Heap.drop, Heap.set, Zcz, Zdl, List.map]; (repeat' apply And.intro) <;> first | rfl | trivial | decide | omega))
          · have h1 : pages ≠ 1 := fun hx => by rw [hx] at h; cases h
            have hl1 : 0 + 1 < ws.length := by
              have := W.len1
              by_cases hlt : 0 + 1 < ws.length
              · exact hlt
              · have := W.last
                rw [show ws.length - 1 = 0 by omega, W.first] at this
                omega
            have hnx : ws.getD 1 0 = (pages + arity - 1) / arity := by have := W.next 0 hl1; rwa [W.first] at this
            have ht1 : ws.take 1 = [pages] := by
              have := W.first
              match ws, hl1 with
              | x :: r, _ => simp only [List.getD_cons_zero] at this; rw [this]; rfl
            have e1 : IntKind.i64.wrap (pages + arity) = pages + arity := wrap_i64 (by omega) (by omega)
            have e2 : IntKind.i64.wrap (pages + arity - 1) = pages + arity - 1 := wrap_i64 (by omega) (by omega)
            have e3 : (pages + arity - 1).tdiv arity = (pages + arity - 1) / arity := Int.tdiv_eq_ediv_of_nonneg (by omega)
            have hm := W.most 1 (by omega)
            have hm' := W.least 1 (by omega)
            have e4 : IntKind.i64.wrap ((pages + arity - 1) / arity) = (pages + arity - 1) / arity := wrap_i64 (by rw [<- hnx]; omega) (by rw [<- hnx]; omega)
            simp only [e1, e2, e3, e4]
            refine ⟨by omega, .inr ⟨(1, c), by dsimp only; omega, by dsimp only; omega, hc⟩, tau [(1, 2)], by dsimp only; omega, ?_⟩
            dsimp only
            rw [ht1, hnx]
            refine ZfN [(1, 2)] rfl ?_ ?_ ?_ ?_
            all_goals (first | rfl | trivial | (dsimp only [Zar, Zbj, Za6, ZbK, bdL, Chunk.bd, SVal.bd, tau, ZeU, Zbm, SVal.ren, SAddr.ren, Zai, Zb3, Chunk.ren, Heap.find, Zbd, ZbD, Nat.beq, cond_true, cond_false, Heap.push, Heap.drop, Heap.set, Zcz, Zdl, List.map]; (repeat' apply And.intro) <;> first | rfl | trivial | decide | omega))
        · dsimp only
          dsimp only [Zhv, Za7, SVal.bd, bdL, ZbK, Chunk.bd, Za7, SVal.bd, bdL, ZbK, Chunk.bd, Zjd, Zbk, Za4, evQ, ZbA, Opd.ev, evL, ZbD, put, ZeI, Zfj, Zg1, kEq, Nat.beq, Nat.ble, Nat.blt, and, or, not, cond_true, cond_false, Heap.push, Heap.find, Heap.set, Heap.drop, Zbd, SVal.chunks, ↓Zba, ↓ZaQ, ↓ZaS, ↓Zaz, ↓ZaR, ↓Za8, ↓ZaL, ↓ZaM, ↓Zav, ↓Zay, ↓Zak, ↓Zax, ↓Zal, ↓ZaE, ↓Zam, ↓ZaD, ↓Zan, ↓Zbb, ↓ZaT, ↓ZaV, ↓ZaA, ↓ZaU, ↓Za9, ↓ZaN, ↓ZaO, ↓Zaw, Zba, ZaQ, ZaS, Zaz, ZaR, Za8, ZaL, ZaM, Zav, Zay, Zak, Zax, Zal, ZaE, Zam, ZaD, Zan, Zbb, ZaT, ZaV, ZaA, ZaU, Za9, ZaN, ZaO, Zaw, Zac, Chunk.len, isB, Zcs, ZbM, Res.ev, RV.ev, ZhO, ZbU, Zcl, Zd6, Zea, Zc7, Zdl, Zcz, Zg0, ZgN, ZcL, Zgm, ZbX, ZbY, Zd9, Zbl, Zb4, Zh8, ZcW, Za1, kap, ZgZ, SVal.ren, SAddr.ren, Zai, Zb3, Chunk.ren, Zau, ZbS, AOp.looks, Zh3, Zic, Zjz, slo, Zcf, ZbJ, Zb9, List.length_cons, List.length_nil, List.cons_append, List.nil_append, List.append_nil, Nat.reduceAdd, Nat.reduceSub, Nat.add_zero, Nat.zero_add, Bool.and_true, Bool.true_and, Bool.and_false, Bool.false_and, Bool.or_false, Bool.not_false, Bool.not_true, Zg7, Option.getD, List.set]
          have hl5 := W.len5
          have hn1 := W.least i hi2
          have hn2 := W.most i hi2
          have e0 : List.take i ws ++ List.take 1 (List.drop 0 [ws.getD i 0]) = List.take (i + 1) ws := by rw [Zfk hi2]; rfl
          simp only [e0]
          refine ⟨by omega, trivial, by rw [List.length_take]; omega, by omega, by omega, fun c1 hc1 => ⟨fun h => ?_, fun h => ?_⟩⟩
          · have h1 : ws.getD i 0 = 1 := eq_of_beq h
            have hl1 : ws.length = i + 1 := by
              by_cases hlt : i + 1 < ws.length
              · have := W.big i hlt
                omega
              · omega
            replace hK := hK c1 (by omega)
            rw [hl1] at hK
            rw [List.take_of_length_le (by omega)]
            refine ZcC [(0, 3)] rfl hK ?_ ?_ ?_ ?_ ?_
            all_goals (first | rfl | trivial | (dsimp only [Zar, Zbj, Za6, ZbK, bdL, Chunk.bd, SVal.bd, tau, ZeU, Zbm, SVal.ren, SAddr.ren, Zai, Zb3, Chunk.ren, Heap.find, Zbd, ZbD, Nat.beq, cond_true, cond_false, Heap.push, Heap.drop, Heap.set, Zcz, Zdl, List.map]; (repeat' apply And.intro) <;> first | rfl | trivial | decide | omega))
          · have h1 : ws.getD i 0 ≠ 1 := fun hx => by rw [hx] at h; cases h
            have hl1 : i + 1 < ws.length := by
              by_cases hlt : i + 1 < ws.length
              · exact hlt
              · have := W.last
                rw [show ws.length - 1 = i by omega] at this
                omega
            have hnx := W.next i hl1
            have e1 : IntKind.i64.wrap (ws.getD i 0 + arity) = ws.getD i 0 + arity := wrap_i64 (by omega) (by omega)
            have e2 : IntKind.i64.wrap (ws.getD i 0 + arity - 1) = ws.getD i 0 + arity - 1 := wrap_i64 (by omega) (by omega)
            have e3 : (ws.getD i 0 + arity - 1).tdiv arity = (ws.getD i 0 + arity - 1) / arity := Int.tdiv_eq_ediv_of_nonneg (by omega)
            have hm := W.most (i + 1) (by omega)
            have hm' := W.least (i + 1) (by omega)
            have e4 : IntKind.i64.wrap ((ws.getD i 0 + arity - 1) / arity) = (ws.getD i 0 + arity - 1) / arity := wrap_i64 (by rw [<- hnx]; omega) (by rw [<- hnx]; omega)
            simp only [e1, e2, e3, e4]
            refine ⟨by omega, .inr ⟨(i + 1, c1), by dsimp only; omega, by dsimp only; omega, hc1⟩, tau [(1, 3)], by dsimp only; omega, ?_⟩
            dsimp only
            rw [hnx]
            refine ZfN [(1, 3)] rfl ?_ ?_ ?_ ?_
            all_goals (first | rfl | trivial | (dsimp only [Zar, Zbj, Za6, ZbK, bdL, Chunk.bd, SVal.bd, tau, ZeU, Zbm, SVal.ren, SAddr.ren, Zai, Zb3, Chunk.ren, Heap.find, Zbd, ZbD, Nat.beq, cond_true, cond_false, Heap.push, Heap.drop, Heap.set, Zcz, Zdl, List.map]; (repeat' apply And.intro) <;> first | rfl | trivial | decide | omega))
  · exact h.elim
end Go.Proofs.Ytinjdimejijabaa
