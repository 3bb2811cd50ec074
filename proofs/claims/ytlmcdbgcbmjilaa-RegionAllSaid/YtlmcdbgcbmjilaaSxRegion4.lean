/- Laws of all that stands in memory. -/
import Derived.Test.YtlmcdbgcbmjilaaSxRegion3
set_option linter.unusedVariables false
set_option linter.unusedSimpArgs false
namespace Go.Sx
theorem find_take {α : Type} {P : α → Bool} {l : List α} {d : α} {i : Nat} (h : (l.take i).find? P = none) (hi : i < l.length) (hp : P (l.getD i d) = true) : l.find? P = some (l.getD i d) := by
  have hg : l.getD i d = l[i] := by rw [List.getD_eq_getElem?_getD, List.getElem?_eq_getElem hi]; rfl
  rw [hg] at hp ⊢
  have hs : l = l.take i ++ l[i] :: l.drop (i + 1) := by rw [← List.drop_eq_getElem_cons hi, List.take_append_drop]
  rw [List.find?_eq_none] at h
  have : l.find? P = (l.take i ++ l[i] :: l.drop (i + 1)).find? P := by rw [← hs]
  rw [this, List.find?_append, List.find?_eq_none.2 h, Option.none_or, List.find?_cons, hp]
theorem find_step {α : Type} {P : α → Bool} {l : List α} {d : α} {i : Nat} (h : (l.take i).find? P = none) (hi : i < l.length) (hp : P (l.getD i d) = false) : (l.take (i + 1)).find? P = none := by
  have hg : l.getD i d = l[i] := by rw [List.getD_eq_getElem?_getD, List.getElem?_eq_getElem hi]; rfl
  rw [hg] at hp
  rw [List.take_succ_eq_append_getElem hi, List.find?_append, h, Option.none_or, List.find?_cons, hp, List.find?_nil]
namespace PlanV
theorem mem_D {p : PlanV} (h : p.right = true) {i : Nat} (hi : (i : Int) < p.all) : partD i ∈ p.parts := by
  unfold parts; rw [if_pos h]
  exact List.mem_append_left _ (List.mem_append_left _ (List.mem_map.2 ⟨i, List.mem_range.2 (by omega), rfl⟩))
theorem mem_T {p : PlanV} (h : p.right = true) {i : Nat} (hi : (i : Int) < p.all) : partT p.all i ∈ p.parts := by
  unfold parts; rw [if_pos h]
  exact List.mem_append_left _ (List.mem_append_right _ (List.mem_map.2 ⟨i, List.mem_range.2 (by omega), rfl⟩))
theorem mem_I {p : PlanV} (h : p.right = true) {l i : Nat} (hl : l < p.levels) (hi : (i : Int) < p.width l) : partI (p.itemsAt + p.ahead l * 32) l i ∈ p.parts := by
  unfold parts; rw [if_pos h]
  exact List.mem_append_right _ (List.mem_flatMap.2 ⟨l, List.mem_range.2 hl, List.mem_map.2 ⟨i, List.mem_range.2 (by omega), rfl⟩⟩)
theorem mem_parts {p : PlanV} {q : PartT} (h : q ∈ p.parts) : p.right = true ∧ ((∃ i : Nat, (i : Int) < p.all ∧ q = partD i) ∨ (∃ i : Nat, (i : Int) < p.all ∧ q = partT p.all i) ∨ ∃ l i : Nat, l < p.levels ∧ (i : Int) < p.width l ∧ q = partI (p.itemsAt + p.ahead l * 32) l i) := by
  unfold parts at h
  split at h
  · rename_i hr
    refine ⟨hr, ?_⟩
    rcases List.mem_append.1 h with h | h
    · rcases List.mem_append.1 h with h | h
      · obtain ⟨i, hi, rfl⟩ := List.mem_map.1 h
        have := List.mem_range.1 hi
        exact .inl ⟨i, by omega, rfl⟩
      · obtain ⟨i, hi, rfl⟩ := List.mem_map.1 h
        have := List.mem_range.1 hi
        exact .inr (.inl ⟨i, by omega, rfl⟩)
    · obtain ⟨l, hl, h⟩ := List.mem_flatMap.1 h
      obtain ⟨i, hi, rfl⟩ := List.mem_map.1 h
      have := List.mem_range.1 hl
      have := List.mem_range.1 hi
      exact .inr (.inr ⟨l, i, by omega, by omega, rfl⟩)
  · cases h
theorem item_of {p : PlanV} (h : p.right = true) {l i : Nat} (hi : (i : Int) < p.width l) : p.itemB ⟨l, i⟩ = true := by
  unfold itemB
  simp only [Bool.and_eq_true, decide_eq_true_eq]
  exact ⟨⟨h, by omega⟩, hi⟩
theorem item_same {p : PlanV} (h : p.right = true) {l i l' i' : Nat} (hi : (i : Int) < p.width l) (hi' : (i' : Int) < p.width l') (he : p.ahead l + i = p.ahead l' + i') : l = l' ∧ i = i' := by
  have h1 := item_of h hi
  have h2 := item_of h hi'
  have := (itemAt_inj h1 h2).1 (by rw [itemAt_eq h1, itemAt_eq h2]; show p.itemsAt + (p.ahead l + i) * 32 = p.itemsAt + (p.ahead l' + i') * 32; rw [he])
  obtain ⟨g1, g2⟩ := this
  exact ⟨Int.ofNat_inj.1 g1, Int.ofNat_inj.1 g2⟩
theorem ahead_top {p : PlanV} {l i : Nat} (hl : l < p.levels) (hi : (i : Int) < p.width l) : p.ahead l + i < p.ahead p.levels := by
  have h1 := p.ahead_succ l
  have h2 := p.ahead_mono (l := l + 1) (m := p.levels) (by omega)
  rw [Int.natCast_add, Int.natCast_one, h1] at h2
  omega
theorem placeIn_eq {p : PlanV} {q : PartT} {a : Int} (hq : q ∈ p.parts) (h1 : pAt q ≤ a) (h2 : a < pAt q + pN q) : placeIn p.parts a = some q := by
  unfold placeIn
  cases hf : p.parts.find? (fun q => decide (pAt q ≤ a) && decide (a < pAt q + pN q)) with
  | none =>
    have := List.find?_eq_none.1 hf q hq
    simp [h1, h2] at this
  | some r =>
    have hr := List.mem_of_find?_eq_some hf
    have hc := List.find?_some hf
    simp only [Bool.and_eq_true, decide_eq_true_eq] at hc
    obtain ⟨g1, g2⟩ := hc
    obtain ⟨hright, cq⟩ := mem_parts hq
    obtain ⟨_, cr⟩ := mem_parts hr
    have hit : p.itemsAt = p.all * 40 := rfl
    congr 1
    rcases cq with ⟨i, hi, rfl⟩ | ⟨i, hi, rfl⟩ | ⟨l, i, hl, hi, rfl⟩ <;> rcases cr with ⟨j, hj, rfl⟩ | ⟨j, hj, rfl⟩ | ⟨m, j, hm, hj, rfl⟩ <;>
      simp only [pAt, pN, partD, partT, partI] at h1 h2 g1 g2
    · obtain rfl : i = j := by omega
      rfl
    · omega
    · have := p.ahead_le m; omega
    · omega
    · obtain rfl : i = j := by omega
      rfl
    · have := p.ahead_le m; omega
    · have := p.ahead_le l; omega
    · have := p.ahead_le l; omega
    · obtain ⟨rfl, rfl⟩ := item_same hright hi hj (by omega)
      rfl
theorem placeIn_none {p : PlanV} {a : Int} (h : a < 0 ∨ p.size ≤ a) : placeIn p.parts a = none := by
  unfold placeIn
  rw [List.find?_eq_none]
  intro q hq hc
  simp only [Bool.and_eq_true, decide_eq_true_eq] at hc
  obtain ⟨hright, cq⟩ := mem_parts hq
  have hsz : p.size = p.itemsAt + p.ahead p.levels * 32 := if_pos hright
  have hit : p.itemsAt = p.all * 40 := rfl
  have hal := p.ahead_le p.levels
  rcases cq with ⟨i, hi, rfl⟩ | ⟨i, hi, rfl⟩ | ⟨l, i, hl, hi, rfl⟩ <;> simp only [pAt, pN, partD, partT, partI] at hc
  · omega
  · omega
  · have := ahead_top hl hi
    have := p.ahead_le l
    have := p.all_le
    omega
theorem eqPlace_iff {a b : PlaceV} : eqPlace a b = true ↔ a.pkind = b.pkind ∧ a.pline = b.pline ∧ a.plevel = b.plevel ∧ a.pindex = b.pindex ∧ a.poff = b.poff := by
  unfold eqPlace
  simp only [Bool.and_eq_true, beq_iff_eq, and_assoc]
theorem findIn_eq {p : PlanV} {q : PartT} {x : PlaceV} (hq : q ∈ p.parts) (h : eqPlace (pPlace q) x = true) : findIn p.parts x = some q := by
  unfold findIn
  cases hf : p.parts.find? (fun q => eqPlace (pPlace q) x) with
  | none => exact absurd h (List.find?_eq_none.1 hf q hq)
  | some r =>
    have hr := List.mem_of_find?_eq_some hf
    have hc := List.find?_some hf
    rw [eqPlace_iff] at hc h
    obtain ⟨_, cq⟩ := mem_parts hq
    obtain ⟨_, cr⟩ := mem_parts hr
    congr 1
    rcases cq with ⟨i, hi, rfl⟩ | ⟨i, hi, rfl⟩ | ⟨l, i, hl, hi, rfl⟩ <;> rcases cr with ⟨j, hj, rfl⟩ | ⟨j, hj, rfl⟩ | ⟨m, j, hm, hj, rfl⟩ <;>
      simp only [pPlace, partD, partT, partI] at h hc
    · obtain rfl : i = j := by omega
      rfl
    · omega
    · omega
    · omega
    · obtain rfl : i = j := by omega
      rfl
    · omega
    · omega
    · omega
    · obtain rfl : l = m := by omega
      obtain rfl : i = j := by omega
      rfl
theorem findIn_none {p : PlanV} {x : PlaceV} (h : ∀ q ∈ p.parts, eqPlace (pPlace q) x = false) : findIn p.parts x = none := by
  unfold findIn
  rw [List.find?_eq_none]
  intro q hq hc
  rw [h q hq] at hc; cases hc
theorem find_data (p : PlanV) (n : Int) : p.dataAt n = p.findAt ⟨1, n, 0, 0, 0⟩ ∧ p.lineB n = p.findB ⟨1, n, 0, 0, 0⟩ := by
  unfold dataAt findAt findB
  cases hb : p.lineB n with
  | true =>
    obtain ⟨h1, h2, h3⟩ := lineB_true hb
    obtain ⟨i, rfl⟩ := Int.eq_ofNat_of_zero_le h2
    rw [findIn_eq (x := ⟨1, (i : Int), 0, 0, 0⟩) (mem_D h1 h3) (eqPlace_iff.2 ⟨rfl, rfl, rfl, rfl, rfl⟩)]
    exact ⟨rfl, rfl⟩
  | false =>
    rw [findIn_none fun q hq => ?_]
    · exact ⟨rfl, rfl⟩
    · obtain ⟨hr, cq⟩ := mem_parts hq
      cases he : eqPlace (pPlace q) ⟨1, n, 0, 0, 0⟩ with
      | false => rfl
      | true =>
        rw [eqPlace_iff] at he
        rcases cq with ⟨i, hi, rfl⟩ | ⟨i, hi, rfl⟩ | ⟨l, i, hl, hi, rfl⟩ <;> simp only [pPlace, partD, partT, partI] at he
        · exfalso
          have : p.lineB n = true := by
            unfold lineB; simp only [Bool.and_eq_true, decide_eq_true_eq]
            exact ⟨⟨hr, by omega⟩, by omega⟩
          rw [hb] at this; cases this
        · omega
        · omega
theorem find_tag (p : PlanV) (n : Int) : p.tagAt n = p.findAt ⟨2, n, 0, 0, 0⟩ ∧ p.lineB n = p.findB ⟨2, n, 0, 0, 0⟩ := by
  unfold tagAt findAt findB
  cases hb : p.lineB n with
  | true =>
    obtain ⟨h1, h2, h3⟩ := lineB_true hb
    obtain ⟨i, rfl⟩ := Int.eq_ofNat_of_zero_le h2
    rw [findIn_eq (x := ⟨2, (i : Int), 0, 0, 0⟩) (mem_T h1 h3) (eqPlace_iff.2 ⟨rfl, rfl, rfl, rfl, rfl⟩)]
    exact ⟨rfl, rfl⟩
  | false =>
    rw [findIn_none fun q hq => ?_]
    · exact ⟨rfl, rfl⟩
    · obtain ⟨hr, cq⟩ := mem_parts hq
      cases he : eqPlace (pPlace q) ⟨2, n, 0, 0, 0⟩ with
      | false => rfl
      | true =>
        rw [eqPlace_iff] at he
        rcases cq with ⟨i, hi, rfl⟩ | ⟨i, hi, rfl⟩ | ⟨l, i, hl, hi, rfl⟩ <;> simp only [pPlace, partD, partT, partI] at he
        · omega
        · exfalso
          have : p.lineB n = true := by
            unfold lineB; simp only [Bool.and_eq_true, decide_eq_true_eq]
            exact ⟨⟨hr, by omega⟩, by omega⟩
          rw [hb] at this; cases this
        · omega
theorem find_item (p : PlanV) (x : ItemV) : p.itemAt x = p.findAt ⟨3, 0, x.level, x.index, 0⟩ ∧ p.itemB x = p.findB ⟨3, 0, x.level, x.index, 0⟩ := by
  obtain ⟨lv, ix⟩ := x
  unfold itemAt findAt findB
  cases hb : p.itemB ⟨lv, ix⟩ with
  | true =>
    obtain ⟨h1, h2, h3⟩ := itemB_true hb
    simp only at h2 h3
    obtain ⟨g1, g2⟩ := width_level (p := p) (l := lv) (by omega)
    obtain ⟨i, rfl⟩ := Int.eq_ofNat_of_zero_le h2
    obtain ⟨l, rfl⟩ := Int.eq_ofNat_of_zero_le g1
    show (if true = true then p.itemsAt + (p.ahead l + i) * 32 else 0) = ((findIn p.parts ⟨3, 0, (l : Int), (i : Int), 0⟩).map pAt).getD 0 ∧ true = (findIn p.parts ⟨3, 0, (l : Int), (i : Int), 0⟩).isSome
    rw [findIn_eq (x := ⟨3, 0, (l : Int), (i : Int), 0⟩) (mem_I h1 (l := l) (i := i) (by omega) h3) (eqPlace_iff.2 ⟨rfl, rfl, rfl, rfl, rfl⟩)]
    refine ⟨?_, rfl⟩
    show p.itemsAt + (p.ahead l + i) * 32 = p.itemsAt + p.ahead l * 32 + (i : Int) * 32
    omega
  | false =>
    rw [findIn_none fun q hq => ?_]
    · exact ⟨rfl, rfl⟩
    · obtain ⟨hr, cq⟩ := mem_parts hq
      cases he : eqPlace (pPlace q) ⟨3, 0, lv, ix, 0⟩ with
      | false => rfl
      | true =>
        rw [eqPlace_iff] at he
        rcases cq with ⟨i, hi, rfl⟩ | ⟨i, hi, rfl⟩ | ⟨l, i, hl, hi, rfl⟩ <;> simp only [pPlace, partD, partT, partI] at he
        · omega
        · omega
        · exfalso
          obtain ⟨_, _, rfl, rfl, _⟩ := he
          have := item_of hr hi
          rw [hb] at this; cases this
/-- The lengths of all, one behind the other. -/
def sumN (l : List PartT) : Int := (l.map pN).sum
theorem sumN_append (a b : List PartT) : sumN (a ++ b) = sumN a + sumN b := by simp [sumN]
theorem sumN_map {f : Nat → PartT} {k : Int} (h : ∀ i, pN (f i) = k) : ∀ n : Nat, sumN ((List.range n).map f) = n * k
  | 0 => by simp [sumN]
  | n + 1 => by
    rw [List.range_succ, List.map_append, sumN_append, sumN_map h n]
    simp only [sumN, List.map_cons, List.map_nil, List.sum_cons, List.sum_nil, h, Int.natCast_add, Int.natCast_one, Int.add_mul, Int.one_mul, Int.add_zero]
theorem sumN_L (p : PlanV) : ∀ l : Nat, sumN (p.partsL l) = p.ahead l * 32
  | 0 => by simp [partsL, sumN, ahead_zero]
  | l + 1 => by
    have hw := p.width_le l
    rw [partsL_succ, sumN_append, sumN_L p l, partsI, sumN_map (k := 32) (fun i => rfl), Int.natCast_add, Int.natCast_one, ahead_succ, Int.toNat_of_nonneg hw.1, Int.add_mul]
theorem sumN_parts (p : PlanV) : sumN p.parts = p.size := by
  unfold parts size
  split
  · have ha := p.all_le
    rw [sumN_append, sumN_append, sumN_L, partsD, partsT, sumN_map (k := 32) (fun i => rfl), sumN_map (k := 8) (fun i => rfl), Int.toNat_of_nonneg ha.1]
    unfold itemsAt; omega
  · rfl
theorem parts_N {p : PlanV} {q : PartT} (h : q ∈ p.parts) : 0 ≤ pN q ∧ pN q ≤ 32 := by
  obtain ⟨_, cq⟩ := mem_parts h
  rcases cq with ⟨i, hi, rfl⟩ | ⟨i, hi, rfl⟩ | ⟨l, i, hl, hi, rfl⟩ <;> simp only [pN, partD, partT, partI] <;> omega
theorem parts_at {p : PlanV} {q : PartT} (h : q ∈ p.parts) : 0 ≤ pAt q ∧ pAt q ≤ 100000 := by
  obtain ⟨_, cq⟩ := mem_parts h
  have ha := p.all_le
  have hit : p.itemsAt = p.all * 40 := rfl
  rcases cq with ⟨i, hi, rfl⟩ | ⟨i, hi, rfl⟩ | ⟨l, i, hl, hi, rfl⟩ <;> simp only [pAt, partD, partT, partI]
  · omega
  · omega
  · have := p.ahead_le l
    have := p.width_le l
    have := p.levels_le
    omega
theorem sumN_bound : ∀ {l : List PartT}, (∀ q ∈ l, 0 ≤ pN q ∧ pN q ≤ 32) → 0 ≤ sumN l ∧ sumN l ≤ 32 * l.length
  | [], _ => by simp [sumN]
  | q :: r, h => by
    have h1 := h q (by simp)
    have h2 := sumN_bound (l := r) (fun q hq => h q (by simp [hq]))
    have e : sumN (q :: r) = pN q + sumN r := by simp [sumN]
    rw [e, List.length_cons]
    omega
theorem parts_len (p : PlanV) : p.parts.length ≤ 400 := by
  unfold parts
  split
  · rw [List.length_append, List.length_append, partsD_len, partsT_len]
    have := p.partsL_len p.levels
    have := p.levels_le
    have := p.all_le
    omega
  · simp
theorem getD_mem {l : List PartT} {i : Nat} {d : PartT} (h : i < l.length) : l.getD i d ∈ l := by
  rw [List.getD_eq_getElem?_getD, List.getElem?_eq_getElem h]; exact List.getElem_mem h
/-- What stands at an address: a line's bytes. -/
theorem place_data {p : PlanV} {a : Int} (hr : p.right = true) (h0 : 0 ≤ a) (h1 : a < p.tags) : p.placeB a = true ∧ p.placeOf a = ⟨1, a / 32, 0, 0, a % 32⟩ := by
  have ht : p.tags = p.all * 32 := rfl
  obtain ⟨i, hi⟩ := Int.eq_ofNat_of_zero_le (show 0 ≤ a / 32 by omega)
  have := placeIn_eq (a := a) (mem_D hr (i := i) (by omega)) (by simp only [pAt, partD]; omega) (by simp only [pAt, pN, partD]; omega)
  unfold placeB placeOf
  rw [this]
  refine ⟨rfl, ?_⟩
  simp only [Option.map_some, Option.getD_some, pAt, partD, PlaceV.mk.injEq]
  refine ⟨trivial, by omega, trivial, trivial, by omega⟩
theorem place_tag {p : PlanV} {a : Int} (hr : p.right = true) (h0 : p.tags ≤ a) (h1 : a < p.itemsAt) : p.placeB a = true ∧ p.placeOf a = ⟨2, (a - p.tags) / 8, 0, 0, (a - p.tags) % 8⟩ := by
  have ht : p.tags = p.all * 32 := rfl
  have hit : p.itemsAt = p.all * 40 := rfl
  obtain ⟨i, hi⟩ := Int.eq_ofNat_of_zero_le (show 0 ≤ (a - p.tags) / 8 by omega)
  have := placeIn_eq (a := a) (mem_T hr (i := i) (by omega)) (by simp only [pAt, partT]; omega) (by simp only [pAt, pN, partT]; omega)
  unfold placeB placeOf
  rw [this]
  refine ⟨rfl, ?_⟩
  simp only [Option.map_some, Option.getD_some, pAt, partT, PlaceV.mk.injEq]
  refine ⟨trivial, by omega, trivial, trivial, by omega⟩
theorem place_item {p : PlanV} {a l i : Int} (hr : p.right = true) (h0 : 0 ≤ l) (h1 : l < p.levels) (h2 : 0 ≤ i) (h3 : i < p.width l) (he : p.ahead l + i = (a - p.itemsAt) / 32) : p.placeB a = true ∧ p.placeOf a = ⟨3, 0, l, i, (a - p.itemsAt) % 32⟩ := by
  obtain ⟨l, rfl⟩ := Int.eq_ofNat_of_zero_le h0
  obtain ⟨i, rfl⟩ := Int.eq_ofNat_of_zero_le h2
  have := placeIn_eq (a := a) (mem_I hr (l := l) (i := i) (by omega) h3) (by simp only [pAt, partI]; omega) (by simp only [pAt, pN, partI]; omega)
  unfold placeB placeOf
  rw [this]
  refine ⟨rfl, ?_⟩
  simp only [Option.map_some, Option.getD_some, pAt, partI, PlaceV.mk.injEq]
  refine ⟨trivial, trivial, trivial, trivial, by omega⟩
theorem place_none {p : PlanV} {a : Int} (h : a < 0 ∨ p.size ≤ a) : p.placeB a = false ∧ p.placeOf a = ⟨0, 0, 0, 0, 0⟩ := by
  unfold placeB placeOf
  rw [placeIn_none h]
  exact ⟨rfl, rfl⟩
theorem take_one {α : Type} {l : List α} {i : Nat} {d : α} (h : i < l.length) : l.take (i + 1) = l.take i ++ [l.getD i d] := by
  rw [List.take_succ_eq_append_getElem h, List.getD_eq_getElem?_getD, List.getElem?_eq_getElem h]; rfl
theorem line_bad {p : PlanV} {a n k : Int} (h : p.codeOf a n = k) (hk : k ≠ 0) : 0 = p.lnOf a n ∧ 0 = p.offOf a n ∧ k = p.codeOf a n := by
  unfold lnOf offOf
  rw [h, if_neg hk, if_neg hk]; exact ⟨rfl, rfl, rfl⟩
theorem line_ok {p : PlanV} {a n : Int} (h : p.codeOf a n = 0) : a / 32 = p.lnOf a n ∧ a % 32 = p.offOf a n ∧ 0 = p.codeOf a n := by
  unfold lnOf offOf
  rw [h, if_pos rfl, if_pos rfl]; exact ⟨rfl, rfl, rfl⟩
theorem code4 {p : PlanV} {a n : Int} (h : p.right = false) : p.codeOf a n = 4 := by unfold codeOf; rw [if_neg (by rw [h]; decide)]
theorem code1 {p : PlanV} {a n : Int} (h : p.right = true) (hn : ¬ (n = 1 ∨ n = 2 ∨ n = 4 ∨ n = 8)) : p.codeOf a n = 1 := by unfold codeOf; rw [if_pos h, if_neg hn]
theorem code2 {p : PlanV} {a n : Int} (h : p.right = true) (hn : n = 1 ∨ n = 2 ∨ n = 4 ∨ n = 8) (ha : ¬ (0 ≤ a ∧ a < p.tags)) : p.codeOf a n = 2 := by unfold codeOf; rw [if_pos h, if_pos hn, if_neg ha]
theorem code9 {p : PlanV} {a n : Int} (h : p.right = true) (hn : n = 1 ∨ n = 2 ∨ n = 4 ∨ n = 8) (ha : 0 ≤ a ∧ a < p.tags) (hm : ¬ (a % n = 0)) : p.codeOf a n = 9 := by unfold codeOf; rw [if_pos h, if_pos hn, if_pos ha, if_neg hm]
theorem code0 {p : PlanV} {a n : Int} (h : p.right = true) (hn : n = 1 ∨ n = 2 ∨ n = 4 ∨ n = 8) (ha : 0 ≤ a ∧ a < p.tags) (hm : a % n = 0) : p.codeOf a n = 0 := by unfold codeOf; rw [if_pos h, if_pos hn, if_pos ha, if_pos hm]
theorem place_kind {p : PlanV} {a : Int} (hr : p.right = true) : (!p.placeB a || (p.placeOf a).pkind != 1) = !(decide (0 ≤ a ∧ a < p.tags)) := by
  have ht : p.tags = p.all * 32 := rfl
  have hit : p.itemsAt = p.all * 40 := rfl
  have ha := p.all_le
  by_cases h : 0 ≤ a ∧ a < p.tags
  · obtain ⟨h1, h2⟩ := place_data hr h.1 h.2
    rw [h1, h2, decide_eq_true h]; rfl
  · rw [decide_eq_false h]
    by_cases h0 : a < 0 ∨ p.size ≤ a
    · rw [(place_none h0).1]; rfl
    · cases hp : placeIn p.parts a with
      | none => unfold placeB; rw [hp]; rfl
      | some q =>
        have hq := List.mem_of_find?_eq_some hp
        have hc := List.find?_some hp
        simp only [Bool.and_eq_true, decide_eq_true_eq] at hc
        unfold placeB placeOf
        rw [hp]
        obtain ⟨_, cq⟩ := mem_parts hq
        rcases cq with ⟨i, hi, rfl⟩ | ⟨i, hi, rfl⟩ | ⟨l, i, hl, hi, rfl⟩ <;> simp only [pAt, pN, partD, partT, partI] at hc
        · omega
        · rfl
        · rfl
end PlanV
end Go.Sx
