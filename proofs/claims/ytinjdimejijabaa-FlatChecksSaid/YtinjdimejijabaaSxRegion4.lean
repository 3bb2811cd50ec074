/- Part of the proof: SxRegion4. -/
import Derived.Test.YtinjdimejijabaaSxRegion3
set_option linter.unusedVariables false
set_option linter.unusedSimpArgs false
namespace Go.Sx
theorem ZxX {α : Type} {P : α -> Bool} {l : List α} {d : α} {i : Nat} (h : (l.take i).find? P = none) (hi : i < l.length) (hp : P (l.getD i d) = true) : l.find? P = some (l.getD i d) := by
  have hg : l.getD i d = l[i] := by rw [List.getD_eq_getElem?_getD, List.getElem?_eq_getElem hi]; rfl
  rw [hg] at hp ⊢
  have hs : l = l.take i ++ l[i] :: l.drop (i + 1) := by rw [<- List.drop_eq_getElem_cons hi, List.take_append_drop]
  rw [List.find?_eq_none] at h
  have : l.find? P = (l.take i ++ l[i] :: l.drop (i + 1)).find? P := by rw [<- hs]
  rw [this, List.find?_append, List.find?_eq_none.2 h, Option.none_or, List.find?_cons, hp]
theorem ZxY {α : Type} {P : α -> Bool} {l : List α} {d : α} {i : Nat} (h : (l.take i).find? P = none) (hi : i < l.length) (hp : P (l.getD i d) = false) : (l.take (i + 1)).find? P = none := by
  have hg : l.getD i d = l[i] := by rw [List.getD_eq_getElem?_getD, List.getElem?_eq_getElem hi]; rfl
  rw [hg] at hp
  rw [List.take_succ_eq_append_getElem hi, List.find?_append, h, Option.none_or, List.find?_cons, hp, List.find?_nil]
namespace PlanV
theorem ZPh {p : PlanV} (h : p.right = true) {i : Nat} (hi : (i : Int) < p.all) : partD i ∈ p.parts := by
  unfold parts; rw [if_pos h]
  exact List.mem_append_left _ (List.mem_append_left _ (List.mem_map.2 ⟨i, List.mem_range.2 (by omega), rfl⟩))
theorem ZfR {p : PlanV} {q : ZfO} (h : q ∈ p.parts) : p.right = true /\ ((∃ i : Nat, (i : Int) < p.all /\ q = partD i) ∨ (∃ i : Nat, (i : Int) < p.all /\ q = partT p.all i) ∨ ∃ l i : Nat, l < p.levels /\ (i : Int) < p.width l /\ q = partI (p.itemsAt + p.ahead l * 32) l i) := by
  unfold parts at h
  split at h
  · rename_i hr
    refine ⟨hr, ?_⟩
    rcases List.mem_append.1 h with h | h
    · rcases List.mem_append.1 h with h | h
      · obtain ⟨i, hi, rfl⟩ := List.mem_map.1 h
        have := List.mem_range.1 hi
        exact .inl ⟨i, by omega, rfl⟩
      · obtain ⟨i, hi, rfl⟩ := List.mem_map.1 h
        have := List.mem_range.1 hi
        exact .inr (.inl ⟨i, by omega, rfl⟩)
    · obtain ⟨l, hl, h⟩ := List.mem_flatMap.1 h
      obtain ⟨i, hi, rfl⟩ := List.mem_map.1 h
      have := List.mem_range.1 hl
      have := List.mem_range.1 hi
      exact .inr (.inr ⟨l, i, by omega, by omega, rfl⟩)
  · cases h
theorem ZxN {p : PlanV} (h : p.right = true) {l i : Nat} (hi : (i : Int) < p.width l) : p.itemB ⟨l, i⟩ = true := by
  unfold itemB
  simp only [Bool.and_eq_true, decide_eq_true_eq]
  exact ⟨⟨h, by omega⟩, hi⟩
theorem ZxM {p : PlanV} (h : p.right = true) {l i l' i' : Nat} (hi : (i : Int) < p.width l) (hi' : (i' : Int) < p.width l') (he : p.ahead l + i = p.ahead l' + i') : l = l' /\ i = i' := by
  have h1 := ZxN h hi
  have h2 := ZxN h hi'
  have := (ZuJ h1 h2).1 (by rw [ZiG h1, ZiG h2]; show p.itemsAt + (p.ahead l + i) * 32 = p.itemsAt + (p.ahead l' + i') * 32; rw [he])
  obtain ⟨g1, g2⟩ := this
  exact ⟨Int.ofNat_inj.1 g1, Int.ofNat_inj.1 g2⟩
theorem ZyJ {p : PlanV} {l i : Nat} (hl : l < p.levels) (hi : (i : Int) < p.width l) : p.ahead l + i < p.ahead p.levels := by
  have h1 := p.ahead_succ l
  have h2 := p.ahead_mono (l := l + 1) (m := p.levels) (by omega)
  rw [Int.natCast_add, Int.natCast_one, h1] at h2
  omega
theorem ZuC {p : PlanV} {q : ZfO} {a : Int} (hq : q ∈ p.parts) (h1 : pAt q <= a) (h2 : a < pAt q + pN q) : placeIn p.parts a = some q := by
  unfold placeIn
  cases hf : p.parts.find? (fun q => decide (pAt q <= a) && decide (a < pAt q + pN q)) with
  | none =>
    have := List.find?_eq_none.1 hf q hq
    simp [h1, h2] at this
  | some r =>
    have hr := List.mem_of_find?_eq_some hf
    have hc := List.find?_some hf
    simp only [Bool.and_eq_true, decide_eq_true_eq] at hc
    obtain ⟨g1, g2⟩ := hc
    obtain ⟨hright, cq⟩ := ZfR hq
    obtain ⟨_, cr⟩ := ZfR hr
    have hit : p.itemsAt = p.all * 40 := rfl
    congr 1
    rcases cq with ⟨i, hi, rfl⟩ | ⟨i, hi, rfl⟩ | ⟨l, i, hl, hi, rfl⟩ <;> rcases cr with ⟨j, hj, rfl⟩ | ⟨j, hj, rfl⟩ | ⟨m, j, hm, hj, rfl⟩ <;>
      simp only [pAt, pN, partD, partT, partI] at h1 h2 g1 g2
    · obtain rfl : i = j := by omega
      rfl
    · omega
    · have := p.ahead_le m; omega
    · omega
    · obtain rfl : i = j := by omega
      rfl
    · have := p.ahead_le m; omega
    · have := p.ahead_le l; omega
    · have := p.ahead_le l; omega
    · obtain ⟨rfl, rfl⟩ := ZxM hright hi hj (by omega)
      rfl
theorem Zpp {p : PlanV} {a : Int} (h : a < 0 ∨ p.size <= a) : placeIn p.parts a = none := by
  unfold placeIn
  rw [List.find?_eq_none]
  intro q hq hc
  simp only [Bool.and_eq_true, decide_eq_true_eq] at hc
  obtain ⟨hright, cq⟩ := ZfR hq
  have hsz : p.size = p.itemsAt + p.ahead p.levels * 32 := if_pos hright
  have hit : p.itemsAt = p.all * 40 := rfl
  have hal := p.ahead_le p.levels
  rcases cq with ⟨i, hi, rfl⟩ | ⟨i, hi, rfl⟩ | ⟨l, i, hl, hi, rfl⟩ <;> simp only [pAt, pN, partD, partT, partI] at hc
  · omega
  · omega
  · have := ZyJ hl hi
    have := p.ahead_le l
    have := p.all_le
    omega
theorem parts_N {p : PlanV} {q : ZfO} (h : q ∈ p.parts) : 0 <= pN q /\ pN q <= 32 := by
  obtain ⟨_, cq⟩ := ZfR h
  rcases cq with ⟨i, hi, rfl⟩ | ⟨i, hi, rfl⟩ | ⟨l, i, hl, hi, rfl⟩ <;> simp only [pN, partD, partT, partI] <;> omega
theorem parts_at {p : PlanV} {q : ZfO} (h : q ∈ p.parts) : 0 <= pAt q /\ pAt q <= 100000 := by
  obtain ⟨_, cq⟩ := ZfR h
  have ha := p.all_le
  have hit : p.itemsAt = p.all * 40 := rfl
  rcases cq with ⟨i, hi, rfl⟩ | ⟨i, hi, rfl⟩ | ⟨l, i, hl, hi, rfl⟩ <;> simp only [pAt, partD, partT, partI]
  · omega
  · omega
  · have := p.ahead_le l
    have := p.width_le l
    have := p.levels_le
    omega
theorem parts_len (p : PlanV) : p.parts.length <= 400 := by
  unfold parts
  split
  · rw [List.length_append, List.length_append, partsD_len, partsT_len]
    have := p.partsL_len p.levels
    have := p.levels_le
    have := p.all_le
    omega
  · simp
theorem getD_mem {l : List ZfO} {i : Nat} {d : ZfO} (h : i < l.length) : l.getD i d ∈ l := by
  rw [List.getD_eq_getElem?_getD, List.getElem?_eq_getElem h]; exact List.getElem_mem h
theorem place_data {p : PlanV} {a : Int} (hr : p.right = true) (h0 : 0 <= a) (h1 : a < p.tags) : p.placeB a = true /\ p.placeOf a = ⟨1, a / 32, 0, 0, a % 32⟩ := by
  have ht : p.tags = p.all * 32 := rfl
  obtain ⟨i, hi⟩ := Int.eq_ofNat_of_zero_le (show 0 <= a / 32 by omega)
  have := ZuC (a := a) (ZPh hr (i := i) (by omega)) (by simp only [pAt, partD]; omega) (by simp only [pAt, pN, partD]; omega)
  unfold placeB placeOf
  rw [this]
  refine ⟨rfl, ?_⟩
  simp only [Option.map_some, Option.getD_some, pAt, partD, PlaceV.mk.injEq]
  refine ⟨trivial, by omega, trivial, trivial, by omega⟩
theorem ZuB {p : PlanV} {a : Int} (h : a < 0 ∨ p.size <= a) : p.placeB a = false /\ p.placeOf a = ⟨0, 0, 0, 0, 0⟩ := by
  unfold placeB placeOf
  rw [Zpp h]
  exact ⟨rfl, rfl⟩
theorem line_bad {p : PlanV} {a n k : Int} (h : p.codeOf a n = k) (hk : k ≠ 0) : 0 = p.lnOf a n /\ 0 = p.offOf a n /\ k = p.codeOf a n := by
  unfold lnOf offOf
  rw [h, if_neg hk, if_neg hk]; exact ⟨rfl, rfl, rfl⟩
theorem line_ok {p : PlanV} {a n : Int} (h : p.codeOf a n = 0) : a / 32 = p.lnOf a n /\ a % 32 = p.offOf a n /\ 0 = p.codeOf a n := by
  unfold lnOf offOf
  rw [h, if_pos rfl, if_pos rfl]; exact ⟨rfl, rfl, rfl⟩
theorem code4 {p : PlanV} {a n : Int} (h : p.right = false) : p.codeOf a n = 4 := by unfold codeOf; rw [if_neg (by rw [h]; decide)]
theorem code1 {p : PlanV} {a n : Int} (h : p.right = true) (hn : ¬ (n = 1 ∨ n = 2 ∨ n = 4 ∨ n = 8)) : p.codeOf a n = 1 := by unfold codeOf; rw [if_pos h, if_neg hn]
theorem code2 {p : PlanV} {a n : Int} (h : p.right = true) (hn : n = 1 ∨ n = 2 ∨ n = 4 ∨ n = 8) (ha : ¬ (0 <= a /\ a < p.tags)) : p.codeOf a n = 2 := by unfold codeOf; rw [if_pos h, if_pos hn, if_neg ha]
theorem code9 {p : PlanV} {a n : Int} (h : p.right = true) (hn : n = 1 ∨ n = 2 ∨ n = 4 ∨ n = 8) (ha : 0 <= a /\ a < p.tags) (hm : ¬ (a % n = 0)) : p.codeOf a n = 9 := by unfold codeOf; rw [if_pos h, if_pos hn, if_pos ha, if_neg hm]
theorem code0 {p : PlanV} {a n : Int} (h : p.right = true) (hn : n = 1 ∨ n = 2 ∨ n = 4 ∨ n = 8) (ha : 0 <= a /\ a < p.tags) (hm : a % n = 0) : p.codeOf a n = 0 := by unfold codeOf; rw [if_pos h, if_pos hn, if_pos ha, if_pos hm]
theorem place_kind {p : PlanV} {a : Int} (hr : p.right = true) : (!p.placeB a || (p.placeOf a).pkind != 1) = !(decide (0 <= a /\ a < p.tags)) := by
  have ht : p.tags = p.all * 32 := rfl
  have hit : p.itemsAt = p.all * 40 := rfl
  have ha := p.all_le
  by_cases h : 0 <= a /\ a < p.tags
  · obtain ⟨h1, h2⟩ := place_data hr h.1 h.2
    rw [h1, h2, decide_eq_true h]; rfl
  · rw [decide_eq_false h]
    by_cases h0 : a < 0 ∨ p.size <= a
    · rw [(ZuB h0).1]; rfl
    · cases hp : placeIn p.parts a with
      | none => unfold placeB; rw [hp]; rfl
      | some q =>
        have hq := List.mem_of_find?_eq_some hp
        have hc := List.find?_some hp
        simp only [Bool.and_eq_true, decide_eq_true_eq] at hc
        unfold placeB placeOf
        rw [hp]
        obtain ⟨_, cq⟩ := ZfR hq
        rcases cq with ⟨i, hi, rfl⟩ | ⟨i, hi, rfl⟩ | ⟨l, i, hl, hi, rfl⟩ <;> simp only [pAt, pN, partD, partT, partI] at hc
        · omega
        · rfl
        · rfl
end PlanV
end Go.Sx
