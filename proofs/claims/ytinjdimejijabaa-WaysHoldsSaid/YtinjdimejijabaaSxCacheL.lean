/- Part of the proof: SxCacheL. -/
import Derived.Test.YtinjdimejijabaaSxCacheN
set_option linter.unusedVariables false
set_option linter.unusedSimpArgs false
namespace Go.Sx
def look (k : Int) (r : List (Int × Int)) : Option Int := (r.find? (Zfv k)).map (·.2)
theorem Zeg {k : Int} {r : List (Int × Int)} (h : 0 <= idxK k r) : ∃ a x b, r = a ++ x :: b /\ x.1 = k /\ (idxK k r).toNat = a.length /\ a.any (Zfv k) = false := by
  unfold idxK at h ⊢
  split at h
  · rename_i ha
    rw [if_pos ha]
    obtain ⟨x, hx, hb⟩ := List.any_eq_true.1 ha
    have hlt := List.findIdx_lt_length_of_exists (p := Zfv k) ⟨x, hx, hb⟩
    refine ⟨r.take (r.findIdx (Zfv k)), r[r.findIdx (Zfv k)], r.drop (r.findIdx (Zfv k) + 1), ?_, ?_, ?_, ?_⟩
    · rw [List.getElem_cons_drop hlt, List.take_append_drop]
    · have := List.findIdx_getElem (xs := r) (p := Zfv k) (w := hlt)
      simpa [Zfv] using this
    · simp; omega
    · rw [List.any_eq_false]
      intro y hy
      obtain ⟨j, hj, rfl⟩ := List.mem_take_iff_getElem.1 hy
      have := List.not_of_lt_findIdx (p := Zfv k) (xs := r) (i := j) (by omega)
      simpa using this
  · omega
theorem Zps {k : Int} {r : List (Int × Int)} (h : ¬ 0 <= idxK k r) : r.any (Zfv k) = false := by
  unfold idxK at h
  split at h
  · omega
  · rename_i ha; exact Bool.eq_false_iff.2 ha
theorem ZjD {k : Int} {r : List (Int × Int)} (h : r.any (Zfv k) = false) : r.find? (Zfv k) = none := by
  rw [List.find?_eq_none]
  intro x hx
  rw [List.any_eq_false] at h
  exact h x hx
theorem Zjt {k : Int} {r : List (Int × Int)} (h : 0 <= idxK k r) : look k r = some (Zsg (idxK k r) r) := by
  obtain ⟨a, x, b, h1, h2, h3, h4⟩ := Zeg h
  unfold look Zsg
  rw [h3, List.getD_eq_getElem?_getD]
  subst h1
  rw [List.find?_append, ZjD h4]
  simp [List.find?_cons, Zfv, h2]
theorem Zju {k : Int} {r : List (Int × Int)} (h : ¬ 0 <= idxK k r) : look k r = none := by
  unfold look; rw [ZjD (Zps h)]; rfl
theorem Zkc {k : Int} {r : List (Int × Int)} : (look k r).isSome = decide (0 <= idxK k r) := by
  by_cases h : 0 <= idxK k r
  · rw [Zjt h, decide_eq_true h]; rfl
  · rw [Zju h, decide_eq_false h]; rfl
theorem ZfV {a b : List (Int × Int)} {x : Int × Int} {i : Int} (h : i.toNat = a.length) : Za0 i (a ++ x :: b) = a ++ b ++ [x] := by
  unfold Za0; rw [h, List.getD_eq_getElem?_getD]; simp
theorem Zmz {a b : List (Int × Int)} {x : Int × Int} {i v : Int} (h : i.toNat = a.length) : ZlU i v (a ++ x :: b) = a ++ (x.1, v) :: b := by
  unfold ZlU; rw [h, List.getD_eq_getElem?_getD]; simp
theorem ZjG {a b : List (Int × Int)} {x : Int × Int} {i : Int} (h0 : 0 <= i) (h : i.toNat = a.length) : (ZaH i (i + 1) (a ++ x :: b)).take ((a ++ x :: b).length - 1) = a ++ b := by
  unfold ZaH
  rw [show (i + 1).toNat = a.length + 1 by omega, h]
  have e1 : List.take a.length (a ++ x :: b) = a := by simp
  have e2 : List.drop (a.length + 1) (a ++ x :: b) = b := by
    rw [<- List.drop_drop]; simp
  rw [e1, e2]
  exact List.take_left' (by simp)
theorem Ze4 {k : Int} {a b : List (Int × Int)} {x : Int × Int} (h : x.1 ≠ k) : look k (a ++ x :: b) = look k (a ++ b) := by
  unfold look; rw [List.find?_append, List.find?_append, List.find?_cons]
  have : Zfv k x = false := by simp [Zfv, h]
  rw [this]
theorem Zh5 {k : Int} {a : List (Int × Int)} {x : Int × Int} (h : x.1 ≠ k) : look k (a ++ [x]) = look k a := by
  have := Ze4 (a := a) (b := []) h
  simpa using this
namespace CacheV
theorem ZwA {C : CacheV} (h : 0 < C.rows.length) (k : Int) : C.at_ k < C.rows.length := by
  unfold at_
  have : Int.tmod k (C.rows.length : Int) < (C.rows.length : Int) := Int.tmod_lt_of_pos _ (by omega)
  omega
theorem ZhY (C : CacheV) (k : Int) (r : List (Int × Int)) : (C.put k r).rows.length = C.rows.length := by unfold put; simp
theorem Zv9 (C : CacheV) (k j : Int) (r : List (Int × Int)) : (C.put k r).at_ j = C.at_ j := by unfold at_; rw [ZhY]
theorem Zj9 {C : CacheV} (h : 0 < C.rows.length) (k j : Int) (r : List (Int × Int)) : (C.put k r).row j = if C.at_ k = C.at_ j then r else C.row j := by
  have hk := ZwA h k
  unfold row
  rw [Zv9]
  unfold put
  simp only [List.getD_eq_getElem?_getD]
  by_cases e : C.at_ k = C.at_ j
  · rw [if_pos e, <- e, List.getElem?_set_self hk]; rfl
  · rw [if_neg e, List.getElem?_set_ne e]
theorem Zrf {C : CacheV} (h : 0 < C.rows.length) (k : Int) : C.row k ∈ C.rows := by
  unfold row
  rw [List.getD_eq_getElem?_getD, List.getElem?_eq_getElem (ZwA h k)]
  exact List.getElem_mem _
theorem Good.put {C : CacheV} (h : C.Good) (k : Int) {r : List (Int × Int)} (hr : (r.length : Int) <= C.ways) : (C.put k r).Good :=
  ⟨h.w1, h.w2, by rw [ZhY]; exact h.s1, by rw [ZhY]; exact h.s2, fun x hx => by
    rcases List.mem_or_eq_of_mem_set hx with h' | rfl
    · exact h.len x h'
    · exact hr⟩
theorem new_good (s w : Int) : (Zht s w).Good := by
  have h1 := Zg4 w
  have h2 := ZjN s
  refine ⟨h1.1, h1.2, by unfold Zht; simp; omega, by unfold Zht; simp; omega, fun r hr => ?_⟩
  have := List.eq_of_mem_replicate hr
  subst this
  show (0 : Int) <= ZaM w
  omega
theorem Zwh {k : Int} {r : List (Int × Int)} (h : 0 <= idxK k r) : (Za0 (idxK k r) r).length = r.length := Zca h idxK_lt.2
theorem ZrP {k v : Int} {r : List (Int × Int)} (h : 0 <= idxK k r) : (Za0 (idxK k r) (ZlU (idxK k r) v r)).length = r.length := by
  have hl : (ZlU (idxK k r) v r).length = r.length := by unfold ZlU; exact List.length_set
  rw [Zca h (by rw [hl]; exact idxK_lt.2), hl]
theorem setC_cases (C : CacheV) (k v : Int) : C.setC k v = C ∨ 0 <= k /\ ∃ r, C.setC k v = C.put k r /\ ((0 <= idxK k (C.row k) /\ r = Za0 (idxK k (C.row k)) (ZlU (idxK k (C.row k)) v (C.row k))) ∨ (¬ 0 <= idxK k (C.row k) /\ ((C.row k).length : Int) < C.ways /\ r = C.row k ++ [(k, v)])) := by
  unfold setC idx
  by_cases h0 : k < 0
  · rw [if_pos h0]; exact .inl rfl
  · rw [if_neg h0]
    by_cases h1 : 0 <= idxK k (C.row k)
    · rw [if_pos h1]; exact .inr ⟨by omega, _, rfl, .inl ⟨h1, rfl⟩⟩
    · rw [if_neg h1]
      by_cases h2 : C.ways <= ((C.row k).length : Int)
      · rw [if_pos h2]; exact .inl rfl
      · rw [if_neg h2]; exact .inr ⟨by omega, _, rfl, .inr ⟨h1, by omega, rfl⟩⟩
theorem hasB_spec {C : CacheV} {k : Int} : C.hasB k = true ↔ 0 <= k /\ 0 <= idxK k (C.row k) := by unfold hasB idx; simp
theorem dropC_cases (C : CacheV) (k : Int) : C.dropC k = C ∨ 0 <= k /\ 0 <= idxK k (C.row k) /\ C.dropC k = C.put k ((ZaH (idxK k (C.row k)) (idxK k (C.row k) + 1) (C.row k)).take ((C.row k).length - 1)) := by
  unfold dropC
  cases h : C.hasB k with
  | false => exact .inl rfl
  | true => have := hasB_spec.1 h; exact .inr ⟨this.1, this.2, rfl⟩
theorem touchC_cases (C : CacheV) (k : Int) : C.touchC k = C ∨ 0 <= k /\ 0 <= idxK k (C.row k) /\ C.touchC k = C.put k (Za0 (idxK k (C.row k)) (C.row k)) := by
  unfold touchC
  cases h : C.hasB k with
  | false => exact .inl rfl
  | true => have := hasB_spec.1 h; exact .inr ⟨this.1, this.2, rfl⟩
structure Turn (C D : CacheV) (k : Int) : Prop where
  good : D.Good
  ways : D.ways = C.ways
  len : D.rows.length = C.rows.length
  other : ∀ j, j ≠ k -> look j (D.row j) = look j (C.row j)
  apart : ∀ j, C.at_ j ≠ C.at_ k ∨ k < 0 -> D.row j = C.row j
theorem Turn.refl {C : CacheV} (h : C.Good) (k : Int) : Turn C C k := ⟨h, rfl, rfl, fun _ _ => rfl, fun _ _ => rfl⟩
theorem Turn.put {C : CacheV} (h : C.Good) {k : Int} (h0 : 0 <= k) {r : List (Int × Int)} (hr : (r.length : Int) <= C.ways) (hl : ∀ j, j ≠ k -> look j r = look j (C.row k)) : Turn C (C.put k r) k := by
  refine ⟨h.put k hr, rfl, ZhY C k r, fun j hj => ?_, fun j hj => ?_⟩
  · rw [Zj9 h.s1]
    by_cases e : C.at_ k = C.at_ j
    · rw [if_pos e, hl j hj]
      unfold row; rw [e]
    · rw [if_neg e]
  · rw [Zj9 h.s1, if_neg (by rcases hj with hj | hj <;> omega)]
theorem ZlW {C : CacheV} (h : C.Good) (k : Int) : ((C.row k).length : Int) <= C.ways := h.len _ (Zrf h.s1 k)
theorem setC_turn {C : CacheV} (h : C.Good) (k v : Int) : Turn C (C.setC k v) k := by
  rcases setC_cases C k v with e | ⟨h0, r, e, ⟨h1, rfl⟩ | ⟨h1, h2, rfl⟩⟩
  · rw [e]; exact Turn.refl h k
  · rw [e]
    refine Turn.put h h0 (by rw [ZrP h1]; exact ZlW h k) fun j hj => ?_
    obtain ⟨a, x, b, g1, g2, g3, _⟩ := Zeg h1
    generalize idxK k (C.row k) = i at *
    rw [g1, Zmz g3, ZfV g3, Zh5 (by simpa [g2] using Ne.symm hj), Ze4 (by rw [g2]; exact Ne.symm hj)]
  · rw [e]
    exact Turn.put h h0 (by simp; omega) fun j hj => Zh5 (Ne.symm hj)
theorem dropC_turn {C : CacheV} (h : C.Good) (k : Int) : Turn C (C.dropC k) k := by
  rcases dropC_cases C k with e | ⟨h0, h1, e⟩
  · rw [e]; exact Turn.refl h k
  · rw [e]
    refine Turn.put h h0 ?_ fun j hj => ?_
    · have := ZlW h k
      rw [List.length_take]; omega
    · obtain ⟨a, x, b, g1, g2, g3, _⟩ := Zeg h1
      generalize idxK k (C.row k) = i at *
      rw [g1, ZjG h1 g3, Ze4 (by rw [g2]; exact Ne.symm hj)]
theorem touchC_turn {C : CacheV} (h : C.Good) (k : Int) : Turn C (C.touchC k) k := by
  rcases touchC_cases C k with e | ⟨h0, h1, e⟩
  · rw [e]; exact Turn.refl h k
  · rw [e]
    refine Turn.put h h0 (by rw [Zwh h1]; exact ZlW h k) fun j hj => ?_
    obtain ⟨a, x, b, g1, g2, g3, _⟩ := Zeg h1
    generalize idxK k (C.row k) = i at *
    rw [g1, ZfV g3, Zh5 (by rw [g2]; exact Ne.symm hj), Ze4 (by rw [g2]; exact Ne.symm hj)]
theorem hasB_look {C : CacheV} {k : Int} (h0 : 0 <= k) : C.hasB k = (look k (C.row k)).isSome := by
  unfold hasB idx
  rw [Zkc, decide_eq_true h0]; rfl
theorem getA_look {C : CacheV} {k : Int} (h0 : 0 <= k) : C.getA k = (look k (C.row k)).getD 0 := by
  unfold getA
  rw [hasB_look h0]
  by_cases h : 0 <= idxK k (C.row k)
  · rw [Zjt h]; rfl
  · rw [Zju h]; rfl
theorem hasB_below {C : CacheV} {k : Int} (h0 : ¬ 0 <= k) : C.hasB k = false := by
  unfold hasB; rw [decide_eq_false h0]; rfl
theorem room_set (C : CacheV) (k v : Int) : C.roomB k = (C.setR k v == 0) := by
  unfold roomB setR
  by_cases h0 : k < 0
  · rw [if_pos h0, decide_eq_false (by omega)]; rfl
  · rw [if_neg h0, decide_eq_true (by omega)]
    by_cases h1 : 0 <= C.idx k
    · rw [if_pos h1, decide_eq_true h1]; rfl
    · rw [if_neg h1, decide_eq_false h1]
      by_cases h2 : C.ways <= ((C.row k).length : Int)
      · rw [if_pos h2, decide_eq_false (by omega)]; rfl
      · rw [if_neg h2, decide_eq_true (by omega)]; rfl
theorem old_le {C : CacheV} (h : C.Good) (k : Int) : ((C.oldL k).length : Int) <= C.ways := by
  unfold oldL
  have := h.w1
  have := ZlW h k
  split
  · simp; omega
  · unfold Ze8; simpa using this
structure Holds (w key v : Int) (C : CacheV) : Prop where
  good : C.Good
  ways : C.ways = ZaM w
  has : 0 <= key -> look key (C.row key) = some v
theorem Holds.turn {w key v k : Int} {C D : CacheV} (h : Holds w key v C) (ht : Turn C D k) (hk : k ≠ key) : Holds w key v D :=
  ⟨ht.good, ht.ways.trans h.ways, fun h0 => (ht.other key (Ne.symm hk)).trans (h.has h0)⟩
theorem ZrN (s w k : Int) : (Zht s w).row k = [] := by
  unfold row
  rw [List.getD_eq_getElem?_getD]
  unfold Zht
  simp only [List.getElem?_replicate]
  split <;> rfl
theorem first_set (s w key v : Int) : Holds w key v ((Zht s w).setC key v) /\ (Zht s w).setR key v = if key < 0 then 1 else 0 := by
  have hg := new_good s w
  have ht := setC_turn hg key v
  have hr := ZrN s w key
  have hw : ¬ (Zht s w).ways <= (([] : List (Int × Int)).length : Int) := by
    have := hg.w1
    simp; omega
  have hi : ¬ 0 <= idxK key [] := by unfold idxK; simp
  refine ⟨⟨ht.good, ht.ways, fun h0 => ?_⟩, ?_⟩
  · unfold setC idx
    rw [if_neg (by omega), hr, if_neg hi, if_neg hw, Zj9 hg.s1, if_pos rfl]
    simp [look, Zfv]
  · unfold setR idx
    rw [hr, if_neg hi, if_neg hw]
end CacheV
end Go.Sx
