/- Part of the proof: SxCacheL. -/
import Derived.Test.YtinjdimejijabaaSxCacheN
set_option linter.unusedVariables false
set_option linter.unusedSimpArgs false
namespace Go.Sx
def look (k : Int) (r : List (Int × Int)) : Option Int := (r.find? (Zgy k)).map (·.2)
theorem Zfu {k : Int} {r : List (Int × Int)} (h : 0 <= idxK k r) : ∃ a x b, r = a ++ x :: b /\ x.1 = k /\ (idxK k r).toNat = a.length /\ a.any (Zgy k) = false := by
  unfold idxK at h ⊢
  split at h
  · rename_i ha
    rw [if_pos ha]
    obtain ⟨x, hx, hb⟩ := List.any_eq_true.1 ha
    have hlt := List.findIdx_lt_length_of_exists (p := Zgy k) ⟨x, hx, hb⟩
    refine ⟨r.take (r.findIdx (Zgy k)), r[r.findIdx (Zgy k)], r.drop (r.findIdx (Zgy k) + 1), ?_, ?_, ?_, ?_⟩
    · rw [List.getElem_cons_drop hlt, List.take_append_drop]
    · have := List.findIdx_getElem (xs := r) (p := Zgy k) (w := hlt)
      simpa [Zgy] using this
    · simp; omega
    · rw [List.any_eq_false]
      intro y hy
      obtain ⟨j, hj, rfl⟩ := List.mem_take_iff_getElem.1 hy
      have := List.not_of_lt_findIdx (p := Zgy k) (xs := r) (i := j) (by omega)
      simpa using this
  · omega
theorem ZvW {k : Int} {r : List (Int × Int)} (h : ¬ 0 <= idxK k r) : r.any (Zgy k) = false := by
  unfold idxK at h
  split at h
  · omega
  · rename_i ha; exact Bool.eq_false_iff.2 ha
theorem ZcF {a b : List (Int × Int)} {x : Int × Int} {i : Int} (h : i.toNat = a.length) : ZaY i (a ++ x :: b) = a ++ b ++ [x] := by
  unfold ZaY; rw [h, List.getD_eq_getElem?_getD]; simp
theorem ZjP {a b : List (Int × Int)} {x : Int × Int} {i v : Int} (h : i.toNat = a.length) : ZnL i v (a ++ x :: b) = a ++ (x.1, v) :: b := by
  unfold ZnL; rw [h, List.getD_eq_getElem?_getD]; simp
theorem ZhL {a b : List (Int × Int)} {x : Int × Int} {i : Int} (h0 : 0 <= i) (h : i.toNat = a.length) : (ZaO i (i + 1) (a ++ x :: b)).take ((a ++ x :: b).length - 1) = a ++ b := by
  unfold ZaO
  rw [show (i + 1).toNat = a.length + 1 by omega, h]
  have e1 : List.take a.length (a ++ x :: b) = a := by simp
  have e2 : List.drop (a.length + 1) (a ++ x :: b) = b := by
    rw [<- List.drop_drop]; simp
  rw [e1, e2]
  exact List.take_left' (by simp)
theorem Zgu {k : Int} {a b : List (Int × Int)} {x : Int × Int} (h : x.1 ≠ k) : look k (a ++ x :: b) = look k (a ++ b) := by
  unfold look; rw [List.find?_append, List.find?_append, List.find?_cons]
  have : Zgy k x = false := by simp [Zgy, h]
  rw [this]
theorem ZkO {k : Int} {a : List (Int × Int)} {x : Int × Int} (h : x.1 ≠ k) : look k (a ++ [x]) = look k a := by
  have := Zgu (a := a) (b := []) h
  simpa using this
namespace CacheV
theorem at_lt {C : CacheV} (h : 0 < C.rows.length) (k : Int) : C.at_ k < C.rows.length := by
  unfold at_
  have : Int.tmod k (C.rows.length : Int) < (C.rows.length : Int) := Int.tmod_lt_of_pos _ (by omega)
  omega
theorem put_len (C : CacheV) (k : Int) (r : List (Int × Int)) : (C.put k r).rows.length = C.rows.length := by unfold put; simp
theorem ZGS (C : CacheV) (k j : Int) (r : List (Int × Int)) : (C.put k r).at_ j = C.at_ j := by unfold at_; rw [put_len]
theorem ZnO {C : CacheV} (h : 0 < C.rows.length) (k j : Int) (r : List (Int × Int)) : (C.put k r).row j = if C.at_ k = C.at_ j then r else C.row j := by
  have hk := at_lt h k
  unfold row
  rw [ZGS]
  unfold put
  simp only [List.getD_eq_getElem?_getD]
  by_cases e : C.at_ k = C.at_ j
  · rw [if_pos e, <- e, List.getElem?_set_self hk]; rfl
  · rw [if_neg e, List.getElem?_set_ne e]
theorem row_mem {C : CacheV} (h : 0 < C.rows.length) (k : Int) : C.row k ∈ C.rows := by
  unfold row
  rw [List.getD_eq_getElem?_getD, List.getElem?_eq_getElem (at_lt h k)]
  exact List.getElem_mem _
theorem Good.put {C : CacheV} (h : C.Good) (k : Int) {r : List (Int × Int)} (hr : (r.length : Int) <= C.ways) : (C.put k r).Good :=
  ⟨h.w1, h.w2, by rw [put_len]; exact h.s1, by rw [put_len]; exact h.s2, fun x hx => by
    rcases List.mem_or_eq_of_mem_set hx with h' | rfl
    · exact h.len x h'
    · exact hr⟩
theorem new_good (s w : Int) : (ZiG s w).Good := by
  have h1 := Zfd w
  have h2 := Zjo s
  refine ⟨h1.1, h1.2, by unfold ZiG; simp; omega, by unfold ZiG; simp; omega, fun r hr => ?_⟩
  have := List.eq_of_mem_replicate hr
  subst this
  show (0 : Int) <= ZaA w
  omega
theorem mv_len {k : Int} {r : List (Int × Int)} (h : 0 <= idxK k r) : (ZaY (idxK k r) r).length = r.length := ZcU h idxK_lt.2
theorem ZAk {k v : Int} {r : List (Int × Int)} (h : 0 <= idxK k r) : (ZaY (idxK k r) (ZnL (idxK k r) v r)).length = r.length := by
  have hl : (ZnL (idxK k r) v r).length = r.length := by unfold ZnL; exact List.length_set
  rw [ZcU h (by rw [hl]; exact idxK_lt.2), hl]
theorem setC_cases (C : CacheV) (k v : Int) : C.setC k v = C ∨ 0 <= k /\ ∃ r, C.setC k v = C.put k r /\ ((0 <= idxK k (C.row k) /\ r = ZaY (idxK k (C.row k)) (ZnL (idxK k (C.row k)) v (C.row k))) ∨ (¬ 0 <= idxK k (C.row k) /\ ((C.row k).length : Int) < C.ways /\ r = C.row k ++ [(k, v)])) := by
  unfold setC idx
  by_cases h0 : k < 0
  · rw [if_pos h0]; exact .inl rfl
  · rw [if_neg h0]
    by_cases h1 : 0 <= idxK k (C.row k)
    · rw [if_pos h1]; exact .inr ⟨by omega, _, rfl, .inl ⟨h1, rfl⟩⟩
    · rw [if_neg h1]
      by_cases h2 : C.ways <= ((C.row k).length : Int)
      · rw [if_pos h2]; exact .inl rfl
      · rw [if_neg h2]; exact .inr ⟨by omega, _, rfl, .inr ⟨h1, by omega, rfl⟩⟩
theorem hasB_spec {C : CacheV} {k : Int} : C.hasB k = true ↔ 0 <= k /\ 0 <= idxK k (C.row k) := by unfold hasB idx; simp
theorem dropC_cases (C : CacheV) (k : Int) : C.dropC k = C ∨ 0 <= k /\ 0 <= idxK k (C.row k) /\ C.dropC k = C.put k ((ZaO (idxK k (C.row k)) (idxK k (C.row k) + 1) (C.row k)).take ((C.row k).length - 1)) := by
  unfold dropC
  cases h : C.hasB k with
  | false => exact .inl rfl
  | true => have := hasB_spec.1 h; exact .inr ⟨this.1, this.2, rfl⟩
theorem touchC_cases (C : CacheV) (k : Int) : C.touchC k = C ∨ 0 <= k /\ 0 <= idxK k (C.row k) /\ C.touchC k = C.put k (ZaY (idxK k (C.row k)) (C.row k)) := by
  unfold touchC
  cases h : C.hasB k with
  | false => exact .inl rfl
  | true => have := hasB_spec.1 h; exact .inr ⟨this.1, this.2, rfl⟩
structure Turn (C D : CacheV) (k : Int) : Prop where
  good : D.Good
  ways : D.ways = C.ways
  len : D.rows.length = C.rows.length
  other : ∀ j, j ≠ k -> look j (D.row j) = look j (C.row j)
  apart : ∀ j, C.at_ j ≠ C.at_ k ∨ k < 0 -> D.row j = C.row j
theorem Turn.refl {C : CacheV} (h : C.Good) (k : Int) : Turn C C k := ⟨h, rfl, rfl, fun _ _ => rfl, fun _ _ => rfl⟩
theorem Turn.put {C : CacheV} (h : C.Good) {k : Int} (h0 : 0 <= k) {r : List (Int × Int)} (hr : (r.length : Int) <= C.ways) (hl : ∀ j, j ≠ k -> look j r = look j (C.row k)) : Turn C (C.put k r) k := by
  refine ⟨h.put k hr, rfl, put_len C k r, fun j hj => ?_, fun j hj => ?_⟩
  · rw [ZnO h.s1]
    by_cases e : C.at_ k = C.at_ j
    · rw [if_pos e, hl j hj]
      unfold row; rw [e]
    · rw [if_neg e]
  · rw [ZnO h.s1, if_neg (by rcases hj with hj | hj <;> omega)]
theorem Zqv {C : CacheV} (h : C.Good) (k : Int) : ((C.row k).length : Int) <= C.ways := h.len _ (row_mem h.s1 k)
theorem Ztv {C : CacheV} (h : C.Good) (k v : Int) : Turn C (C.setC k v) k := by
  rcases setC_cases C k v with e | ⟨h0, r, e, ⟨h1, rfl⟩ | ⟨h1, h2, rfl⟩⟩
  · rw [e]; exact Turn.refl h k
  · rw [e]
    refine Turn.put h h0 (by rw [ZAk h1]; exact Zqv h k) fun j hj => ?_
    obtain ⟨a, x, b, g1, g2, g3, _⟩ := Zfu h1
    generalize idxK k (C.row k) = i at *
    rw [g1, ZjP g3, ZcF g3, ZkO (by simpa [g2] using Ne.symm hj), Zgu (by rw [g2]; exact Ne.symm hj)]
  · rw [e]
    exact Turn.put h h0 (by simp; omega) fun j hj => ZkO (Ne.symm hj)
theorem ZrC {C : CacheV} (h : C.Good) (k : Int) : Turn C (C.dropC k) k := by
  rcases dropC_cases C k with e | ⟨h0, h1, e⟩
  · rw [e]; exact Turn.refl h k
  · rw [e]
    refine Turn.put h h0 ?_ fun j hj => ?_
    · have := Zqv h k
      rw [List.length_take]; omega
    · obtain ⟨a, x, b, g1, g2, g3, _⟩ := Zfu h1
      generalize idxK k (C.row k) = i at *
      rw [g1, ZhL h1 g3, Zgu (by rw [g2]; exact Ne.symm hj)]
theorem ZnI {C : CacheV} (h : C.Good) (k : Int) : Turn C (C.touchC k) k := by
  rcases touchC_cases C k with e | ⟨h0, h1, e⟩
  · rw [e]; exact Turn.refl h k
  · rw [e]
    refine Turn.put h h0 (by rw [mv_len h1]; exact Zqv h k) fun j hj => ?_
    obtain ⟨a, x, b, g1, g2, g3, _⟩ := Zfu h1
    generalize idxK k (C.row k) = i at *
    rw [g1, ZcF g3, ZkO (by rw [g2]; exact Ne.symm hj), Zgu (by rw [g2]; exact Ne.symm hj)]
theorem room_set (C : CacheV) (k v : Int) : C.roomB k = (C.setR k v == 0) := by
  unfold roomB setR
  by_cases h0 : k < 0
  · rw [if_pos h0, decide_eq_false (by omega)]; rfl
  · rw [if_neg h0, decide_eq_true (by omega)]
    by_cases h1 : 0 <= C.idx k
    · rw [if_pos h1, decide_eq_true h1]; rfl
    · rw [if_neg h1, decide_eq_false h1]
      by_cases h2 : C.ways <= ((C.row k).length : Int)
      · rw [if_pos h2, decide_eq_false (by omega)]; rfl
      · rw [if_neg h2, decide_eq_true (by omega)]; rfl
theorem old_le {C : CacheV} (h : C.Good) (k : Int) : ((C.oldL k).length : Int) <= C.ways := by
  unfold oldL
  have := h.w1
  have := Zqv h k
  split
  · simp; omega
  · unfold Za1; simpa using this
structure Holds (w key v : Int) (C : CacheV) : Prop where
  good : C.Good
  ways : C.ways = ZaA w
  has : 0 <= key -> look key (C.row key) = some v
end CacheV
end Go.Sx
