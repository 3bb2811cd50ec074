/- Part of the proof: SxT6. -/
import Derived.Test.YtefmjmghkedciaaSxT5
set_option linter.unusedVariables false
set_option linter.unusedSimpArgs false
namespace Go.Proofs.Ytefmjmghkedciaa
open Go.Sx
/-- The bits behind a number's being put. -/
def PutOk (xs ys : List Int) (a n : Nat) (v : Int) : Prop := ys.length = xs.length ∧ Byt ys ∧ ∀ k, bitB ys k = if a ≤ k ∧ k < a + n then v / 2 ^ (k - a) % 2 else bitB xs k
def S47 : Sx.Spec := fun args H K => ∃ m c xs a n v, args = [.slice ⟨0,0,0,1⟩ m c, .int .i64 a, .int .i64 n, .int .u64 v] ∧ H = ⟨1,[(0,some ⟨true,[.ints .u8 m xs],0⟩)]⟩ ∧ m ≤ 1000000 ∧ I64 a ∧ I64 n ∧ xs.length = m ∧ Byt xs ∧ 0 ≤ v ∧ v < 2 ^ 64 ∧
  (¬ There m a n → K (.int .i64 2) ⟨1,[(0,some ⟨true,[.ints .u8 m xs],0⟩)]⟩) ∧
  (There m a n → ¬ v < 2 ^ n.toNat → K (.int .i64 1) ⟨1,[(0,some ⟨true,[.ints .u8 m xs],0⟩)]⟩) ∧
  (There m a n → v < 2 ^ n.toNat → ∀ ys, PutOk xs ys a.toNat n.toNat v → K (.int .i64 0) ⟨1,[(0,some ⟨true,[.ints .u8 m ys],0⟩)]⟩)
theorem bitB_set {xs : List Int} {y : Int} {j : Nat} (hj : j < xs.length) (k : Nat) : bitB (xs.set j y) k = if k / 8 = j then bit8 y (k % 8) else bitB xs k := by
  unfold bitB
  simp only [List.getD_eq_getElem?_getD, List.getElem?_set]
  by_cases h : k / 8 = j
  · rw [if_pos h, if_pos h.symm, if_pos (by omega)]; rfl
  · rw [if_neg h, if_neg (fun h' => h h'.symm)]
theorem byt_set {xs : List Int} {y : Int} {j : Nat} (h : Byt xs) (hy : 0 ≤ y ∧ y < 256) : Byt (xs.set j y) := fun x hx => by
  rcases List.mem_or_eq_of_mem_set hx with h1 | h1
  · exact h x h1
  · rw [h1]; exact hy
/-- One step of a number's being put. -/
theorem put_step {xs ys : List Int} {a i : Nat} {v : Int} (h : PutOk xs ys a i v) (hk : (a + i) / 8 < xs.length) (_hv : 0 ≤ v) :
    (v / 2 ^ i % 2 = 0 → PutOk xs (ys.set ((a + i) / 8) (iandNot .u8 (ys.getD ((a + i) / 8) 0) (2 ^ ((a + i) % 8) : Nat))) a (i + 1) v) ∧
    (v / 2 ^ i % 2 = 1 → PutOk xs ((ys.set ((a + i) / 8) (iandNot .u8 (ys.getD ((a + i) / 8) 0) (2 ^ ((a + i) % 8) : Nat))).set ((a + i) / 8)
      (ior .u8 ((ys.set ((a + i) / 8) (iandNot .u8 (ys.getD ((a + i) / 8) 0) (2 ^ ((a + i) % 8) : Nat))).getD ((a + i) / 8) 0) (2 ^ ((a + i) % 8) : Nat))) a (i + 1) v) := by
  obtain ⟨h1, h2, h3⟩ := h
  have hb8 : (a + i) % 8 < 8 := Nat.mod_lt _ (by omega)
  have hc := clr8 (h2.getD ((a + i) / 8)) hb8
  generalize iandNot .u8 (ys.getD ((a + i) / 8) 0) (2 ^ ((a + i) % 8) : Nat) = y1 at *
  have hget : (ys.set ((a + i) / 8) y1).getD ((a + i) / 8) 0 = y1 := by
    simp [List.getD_eq_getElem?_getD, show (a + i) / 8 < ys.length by omega]
  have hs := set8 (hc.1) hb8
  rw [hget]
  generalize ior .u8 y1 (2 ^ ((a + i) % 8) : Nat) = y2 at *
  have key : ∀ (y : Int) (q : Int), (∀ c, c < 8 → bit8 y c = if c = (a + i) % 8 then q else bit8 (ys.getD ((a + i) / 8) 0) c) → v / 2 ^ i % 2 = q → ∀ k, (if k / 8 = (a + i) / 8 then bit8 y (k % 8) else bitB ys k) = if a ≤ k ∧ k < a + (i + 1) then v / 2 ^ (k - a) % 2 else bitB xs k := fun y q hy hq k => by
    have hk3 := h3 k
    by_cases hki : k = a + i
    · subst hki
      rw [if_pos rfl, hy _ hb8, if_pos rfl, if_pos (by omega), show a + i - a = i by omega, hq]
    · have hiff : (a ≤ k ∧ k < a + (i + 1)) ↔ (a ≤ k ∧ k < a + i) := by omega
      simp only [hiff]
      rw [← hk3]
      by_cases hk8 : k / 8 = (a + i) / 8
      · rw [if_pos hk8, hy _ (Nat.mod_lt _ (by omega)), if_neg (by omega)]
        unfold bitB
        rw [hk8]
      · rw [if_neg hk8]
  refine ⟨fun hq => ⟨by simp [h1], byt_set h2 hc.1, fun k => ?_⟩, fun hq => ⟨by simp [h1], byt_set (byt_set h2 hc.1) hs.1, fun k => ?_⟩⟩
  · rw [bitB_set (by omega)]
    exact key y1 0 hc.2 hq k
  · rw [List.set_set, bitB_set (by omega)]
    refine key y2 1 (fun c hc8 => ?_) hq k
    rw [hs.2 c hc8, hc.2 c hc8]
    split <;> rfl
theorem s47 : Sound Try.prog 40 S47 := by
  have hΓ : CallOk Try.prog (withC [cons151]) := withC_ok ⟨s151, trivial⟩
  refine fn_sound hΓ c47_fits ?_
  rintro _ _ K ⟨m, c, xs, a, n, v, rfl, rfl, hm, ha, hn, hl, hb, hv, hv', hK2, hK1, hK0⟩
  refine ⟨rfl, fun w0 fp ρi => ?_⟩
  dsimp only [c47, cons151, keeps, SVal.bd, bdL, bdCs, Chunk.bd, keeps, SVal.bd, bdL, bdCs, Chunk.bd, evFn, evCode, evItems, evQ, evOp, Opd.ev, evL, getE, put, kill, dead, binV, kEq, Nat.beq, Nat.ble, Nat.blt, and, or, not, cond_true, cond_false, Heap.push, Heap.find, Heap.set, Heap.drop, findE, SVal.chunks, rdC, rdA, wrC, wrA, takeN, dropN, lenCs, Chunk.len, isB, isCell, cellCs, Res.ev, RV.ev, getL, argEnv, withC, findC, callS, denil, nilV, nilE, extL, extV, extCs, winC, rangeC, disjOk, clash, heapOf, putAll, putC, wrWin, newEnts, kap, getP, SVal.ren, SAddr.ren, renCs, renL, Chunk.ren, plainCs, plainV, AOp.looks, srcI, optE, bndE, slo, evInts, evBuild, zerosL, List.length_cons, List.length_nil, List.cons_append, List.nil_append, List.append_nil, Nat.reduceAdd, Nat.reduceSub, Nat.add_zero, Nat.zero_add, Bool.and_true, Bool.true_and, Bool.and_false, Bool.false_and, Bool.or_false, Bool.not_false, Bool.not_true, memN, Option.getD, List.set]
  refine ⟨by omega, _, _, _, _, _, _, rfl, rfl, hm, ha, hn, ?_⟩
  dsimp only [keeps, SVal.bd, bdL, bdCs, Chunk.bd, keeps, SVal.bd, bdL, bdCs, Chunk.bd, evFn, evCode, evItems, evQ, evOp, Opd.ev, evL, getE, put, kill, dead, binV, kEq, Nat.beq, Nat.ble, Nat.blt, and, or, not, cond_true, cond_false, Heap.push, Heap.find, Heap.set, Heap.drop, findE, SVal.chunks, rdC, rdA, wrC, wrA, takeN, dropN, lenCs, Chunk.len, isB, isCell, cellCs, Res.ev, RV.ev, getL, argEnv, withC, findC, callS, denil, nilV, nilE, extL, extV, extCs, winC, rangeC, disjOk, clash, heapOf, putAll, putC, wrWin, newEnts, kap, getP, SVal.ren, SAddr.ren, renCs, renL, Chunk.ren, plainCs, plainV, AOp.looks, srcI, optE, bndE, slo, evInts, evBuild, zerosL, List.length_cons, List.length_nil, List.cons_append, List.nil_append, List.append_nil, Nat.reduceAdd, Nat.reduceSub, Nat.add_zero, Nat.zero_add, Bool.and_true, Bool.true_and, Bool.and_false, Bool.false_and, Bool.or_false, Bool.not_false, Bool.not_true, memN, Option.getD, List.set]
  refine ⟨fun h => ?_, fun h => ?_⟩
  · have hno : ¬ There m a n := by intro ht; rw [decide_eq_true ht] at h; cases h
    refine ret_tau [] rfl (hK2 hno) ?_ ?_ ?_ ?_ ?_
    all_goals (first | rfl | trivial | (dsimp only [heapSub, injSub, envSub, bdCs, bdL, Chunk.bd, SVal.bd, tau, tauE, whole, SVal.ren, SAddr.ren, renCs, renL, Chunk.ren, Heap.find, findE, getE, Nat.beq, cond_true, cond_false, Heap.push, Heap.drop, Heap.set, nilE, nilV, List.map]; (repeat' apply And.intro) <;> first | rfl | trivial | decide | omega))
  · have ht : There m a n := by by_cases ht : There m a n
                                · exact ht
                                · rw [decide_eq_false ht] at h; cases h
    replace hK1 := hK1 ht
    replace hK0 := hK0 ht
    clear hK2 h
    unfold There at ht
    obtain ⟨a, rfl⟩ := Int.eq_ofNat_of_zero_le ht.1
    obtain ⟨n, rfl⟩ := Int.eq_ofNat_of_zero_le ht.2.1
    simp only [Int.toNat_natCast] at hK0 hK1
    have hsh : ishr .u64 v (n : Int) = v / 2 ^ n := by rw [ishr_eq _ _ _ (by simp only [Int.toNat_natCast]; show n ≤ 64; omega), Int.toNat_natCast]
    have hp0 : (0 : Int) < 2 ^ n := Int.pow_pos (by omega)
    have hdiv : v / 2 ^ n = 0 ↔ v < 2 ^ n := by
      constructor
      · intro h
        have := Int.lt_mul_ediv_self_add (x := v) hp0
        rw [h] at this; simpa using this
      · intro h; exact Int.ediv_eq_zero_of_lt hv h
    simp only [hsh]
    refine ⟨decide (¬ v < 2 ^ n), fun h => ⟨by omega, ⟨trivial, trivial⟩, ?_⟩, fun h => ?_, fun h => ?_, fun h => ?_⟩
    · by_cases hlt : v < 2 ^ n
      · rw [hdiv.2 hlt]; simp [hlt]
      · have : v / 2 ^ n ≠ 0 := fun h => hlt (hdiv.1 h)
        simp [hlt, this]
    · have := of_decide_eq_false h
      have hn64 : n = 64 := by omega
      subst hn64
      simp only [hv', not_true, decide_false]
    · refine ret_tau [] rfl (hK1 (by simpa using h)) ?_ ?_ ?_ ?_ ?_
      all_goals (first | rfl | trivial | (dsimp only [heapSub, injSub, envSub, bdCs, bdL, Chunk.bd, SVal.bd, tau, tauE, whole, SVal.ren, SAddr.ren, renCs, renL, Chunk.ren, Heap.find, findE, getE, Nat.beq, cond_true, cond_false, Heap.push, Heap.drop, Heap.set, nilE, nilV, List.map]; (repeat' apply And.intro) <;> first | rfl | trivial | decide | omega))
    · have hK := hK0 (by simpa using h)
      refine loop_rule hΓ (fun _ _ _ _ h => h) (S := {p : Nat × List Int // p.1 ≤ n ∧ PutOk xs p.2 a p.1 v})
        (fun p => ([(0, some (.slice ⟨0,0,0,1⟩ m c)), (1, some (.int .i64 a)), (3, some (.int .u64 v)), (27, some (.int .i64 n)), (28, some (.int .i64 p.1.1))], ⟨1,[(0,some ⟨true,[.ints .u8 m p.1.2],0⟩)]⟩)) (fun p => n - p.1.1) ?_ ?_
      · refine ⟨⟨(0, xs), Nat.zero_le _, rfl, hb, fun k => by rw [if_neg (by omega)]⟩, tau [], ?_⟩
        refine sub_tau [] rfl ?_ ?_ ?_ ?_
        all_goals (first | rfl | trivial | (dsimp only [heapSub, injSub, envSub, bdCs, bdL, Chunk.bd, SVal.bd, tau, tauE, whole, SVal.ren, SAddr.ren, renCs, renL, Chunk.ren, Heap.find, findE, getE, Nat.beq, cond_true, cond_false, Heap.push, Heap.drop, Heap.set, nilE, nilV, List.map]; (repeat' apply And.intro) <;> first | rfl | trivial | decide | omega))
      · rintro ⟨⟨i, ys⟩, hi, hp⟩
        dsimp only at hi hp
        dsimp only [c47_l0, keeps, SVal.bd, bdL, bdCs, Chunk.bd, keeps, SVal.bd, bdL, bdCs, Chunk.bd, evFn, evCode, evItems, evQ, evOp, Opd.ev, evL, getE, put, kill, dead, binV, kEq, Nat.beq, Nat.ble, Nat.blt, and, or, not, cond_true, cond_false, Heap.push, Heap.find, Heap.set, Heap.drop, findE, SVal.chunks, rdC, rdA, wrC, wrA, takeN, dropN, lenCs, Chunk.len, isB, isCell, cellCs, Res.ev, RV.ev, getL, argEnv, withC, findC, callS, denil, nilV, nilE, extL, extV, extCs, winC, rangeC, disjOk, clash, heapOf, putAll, putC, wrWin, newEnts, kap, getP, SVal.ren, SAddr.ren, renCs, renL, Chunk.ren, plainCs, plainV, AOp.looks, srcI, optE, bndE, slo, evInts, evBuild, zerosL, List.length_cons, List.length_nil, List.cons_append, List.nil_append, List.append_nil, Nat.reduceAdd, Nat.reduceSub, Nat.add_zero, Nat.zero_add, Bool.and_true, Bool.true_and, Bool.and_false, Bool.false_and, Bool.or_false, Bool.not_false, Bool.not_true, memN, Option.getD, List.set]
        refine ⟨fun h => ?_, fun h => ?_⟩
        · have hlt : (i : Int) < n := of_decide_eq_true h
          have e1 : IntKind.i64.wrap ((a : Int) + i) = ((a + i : Nat) : Int) := wrap_i64 (by omega) (by omega)
          have e2 : ishr .i64 ((a + i : Nat) : Int) 3 = (((a + i) / 8 : Nat) : Int) := by
            rw [ishr_eq _ _ _ (by decide)]
            show ((a + i : Nat) : Int) / 8 = _
            omega
          have e3 : iand .i64 ((a + i : Nat) : Int) 7 = (((a + i) % 8 : Nat) : Int) := iand_i64_7 _ (by omega)
          have e4 : ishl .u8 1 (((a + i) % 8 : Nat) : Int) = ((2 ^ ((a + i) % 8) : Nat) : Int) := by
            have : (a + i) % 8 < 8 := Nat.mod_lt _ (by omega)
            generalize (a + i) % 8 = b at *
            rcases (show b = 0 ∨ b = 1 ∨ b = 2 ∨ b = 3 ∨ b = 4 ∨ b = 5 ∨ b = 6 ∨ b = 7 by omega) with rfl | rfl | rfl | rfl | rfl | rfl | rfl | rfl <;> decide
          have e5 : ishr .u64 v (i : Int) = v / 2 ^ i := by rw [ishr_eq _ _ _ (by simp only [Int.toNat_natCast]; show i ≤ 64; omega), Int.toNat_natCast]
          have e6 : iand .u64 (v / 2 ^ i) 1 = v / 2 ^ i % 2 := by
            obtain ⟨x, rfl⟩ := Int.eq_ofNat_of_zero_le hv
            have hp : (x : Int) / 2 ^ i = ((x / 2 ^ i : Nat) : Int) := by simp
            have hle : x / 2 ^ i ≤ x := Nat.div_le_self _ _
            have := iand_u64 (x / 2 ^ i) 1 (by omega) (by omega)
            rw [hp]
            rw [show ((2 ^ 1 - 1 : Nat) : Int) = 1 from rfl] at this
            rw [this]; omega
          have e9 : IntKind.i64.wrap (↑i + 1) = ((i + 1 : Nat) : Int) := wrap_i64 (by omega) (by omega)
          have hst := put_step hp (by omega) hv
          have hyl : ys.length = m := by rw [hp.1, hl]
          simp only [e1, e2, e3, Int.toNat_natCast, Nat.zero_add, e4, e5, e6, e9]
          refine ⟨by omega, by omega, by omega, by omega, by omega, by omega, by omega, by omega, by omega, by omega, fun h => ?_, fun h => ?_⟩
          · have h1 : v / 2 ^ i % 2 = 1 := by simpa using h
            repeat (refine And.intro (by first | omega | (simp only [List.length_set]; omega)) ?_)
            refine ⟨⟨(i + 1, _), by dsimp only; omega, hst.2 h1⟩, tau [], by dsimp only; omega, ?_⟩
            refine sub_tau [] rfl ?_ ?_ ?_ ?_
            all_goals (first | rfl | trivial | (dsimp only [heapSub, injSub, envSub, bdCs, bdL, Chunk.bd, SVal.bd, tau, tauE, whole, SVal.ren, SAddr.ren, renCs, renL, Chunk.ren, Heap.find, findE, getE, Nat.beq, cond_true, cond_false, Heap.push, Heap.drop, Heap.set, nilE, nilV, List.map]; (repeat' apply And.intro) <;> first | rfl | trivial | decide | omega))
          · have h1 : v / 2 ^ i % 2 = 0 := by
              have : ¬ v / 2 ^ i % 2 = 1 := by simpa using h
              omega
            refine ⟨⟨(i + 1, _), by dsimp only; omega, hst.1 h1⟩, tau [], by dsimp only; omega, ?_⟩
            refine sub_tau [] rfl ?_ ?_ ?_ ?_
            all_goals (first | rfl | trivial | (dsimp only [heapSub, injSub, envSub, bdCs, bdL, Chunk.bd, SVal.bd, tau, tauE, whole, SVal.ren, SAddr.ren, renCs, renL, Chunk.ren, Heap.find, findE, getE, Nat.beq, cond_true, cond_false, Heap.push, Heap.drop, Heap.set, nilE, nilV, List.map]; (repeat' apply And.intro) <;> first | rfl | trivial | decide | omega))
        · have hge : ¬ (i : Int) < n := of_decide_eq_false h
          have hin : i = n := by omega
          subst hin
          refine ret_tau [] rfl (hK ys hp) ?_ ?_ ?_ ?_ ?_
          all_goals (first | rfl | trivial | (dsimp only [heapSub, injSub, envSub, bdCs, bdL, Chunk.bd, SVal.bd, tau, tauE, whole, SVal.ren, SAddr.ren, renCs, renL, Chunk.ren, Heap.find, findE, getE, Nat.beq, cond_true, cond_false, Heap.push, Heap.drop, Heap.set, nilE, nilV, List.map]; (repeat' apply And.intro) <;> first | rfl | trivial | decide | omega))
end Go.Proofs.Ytefmjmghkedciaa
