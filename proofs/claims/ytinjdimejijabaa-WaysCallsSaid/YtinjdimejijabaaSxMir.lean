/- Part of the proof: SxMir. -/
import Derived.Test.YtinjdimejijabaaSxCacheP
import Derived.Test.YtinjdimejijabaaSxRefN
import Derived.Test.YtinjdimejijabaaSxKeysA
set_option linter.unusedVariables false
set_option linter.unusedSimpArgs false
namespace Go.Sx
theorem Ziq {α : Type} {p q r : α -> Bool} : ∀ {l : List α}, (∀ x ∈ l, r x = (p x || q x)) -> (∀ x ∈ l, (p x && q x) = false) -> (l.filter p ++ l.filter q).Perm (l.filter r)
  | [], _, _ => List.Perm.refl _
  | x :: l, h1, h2 => by
    have ih := Ziq (l := l) (fun y hy => h1 y (List.mem_cons_of_mem _ hy)) (fun y hy => h2 y (List.mem_cons_of_mem _ hy))
    have e1 := h1 x List.mem_cons_self
    have e2 := h2 x List.mem_cons_self
    rw [List.filter_cons, List.filter_cons, List.filter_cons, e1]
    cases hp : p x <;> cases hq : q x <;> rw [hp, hq] at e2
    · simpa using ih
    · simp only [Bool.or_true, if_true, if_neg Bool.false_ne_true]
      exact List.perm_middle.trans (ih.cons _)
    · simp only [Bool.or_false, if_true, if_neg Bool.false_ne_true, List.cons_append]
      exact ih.cons _
    · simp at e2
theorem ZjW {α : Type} {f : α -> Nat} {l : List α} : ∀ n : Nat, ((List.range n).flatMap fun s => l.filter fun x => f x == s).Perm (l.filter fun x => decide (f x < n))
  | 0 => by simp
  | n + 1 => by
    rw [List.range_succ, List.flatMap_append, List.flatMap_cons, List.flatMap_nil, List.append_nil]
    refine ((ZjW n).append_right _).trans (Ziq (fun x _ => ?_) (fun x _ => ?_))
    · rw [Bool.eq_iff_iff]; simp; omega
    · simp; omega
def cls (S k : Int) : Nat := (Int.tmod k S).toNat
theorem ZAw {S a b : Int} (hS : 1 <= S) (ha : 0 <= a) (hb : 0 <= b) : (Int.tmod a S == Int.tmod b S) = (cls S a == cls S b) := by
  have h1 := Int.tmod_nonneg S ha
  have h2 := Int.tmod_nonneg S hb
  unfold cls
  rw [Bool.eq_iff_iff, beq_iff_eq, beq_iff_eq]
  omega
theorem ZvX {k : Int} {a b : List (Int × Int)} {x : Int × Int} (ha : a.any (Zgy k) = false) (hx : x.1 = k) : idxK k (a ++ x :: b) = (a.length : Int) := by
  refine ZnY (by simp) ?_ ?_
  · rw [List.take_left' rfl]; exact ha
  · rw [List.getD_eq_getElem?_getD, List.getElem?_append_right (Nat.le_refl _)]
    simp [Zgy, hx]
structure Mir (S W : Int) (C : CacheV) (L : List (Int × Int)) : Prop where
  good : C.Good
  ways : C.ways = W
  len : (C.rows.length : Int) = S
  nn : ∀ x ∈ L, 0 <= x.1
  row : ∀ s, s < C.rows.length -> C.rows.getD s [] = L.filter fun x => cls S x.1 == s
namespace Mir
variable {S W : Int} {C : CacheV} {L L' : List (Int × Int)}
theorem s1 (h : Mir S W C L) : 1 <= S := by have := h.good.s1; have := h.len; omega
theorem at_eq (h : Mir S W C L) (k : Int) : C.at_ k = cls S k := by unfold CacheV.at_ cls; rw [h.len]
theorem row_k (h : Mir S W C L) (k : Int) : C.row k = L.filter fun x => cls S x.1 == cls S k := by
  unfold CacheV.row
  rw [h.row _ (CacheV.at_lt h.good.s1 k), h.at_eq]
theorem new (sets ways : Int) : Mir (ZaA sets) (ZaA ways) (ZiG sets ways) [] := by
  have h2 := Zjo sets
  refine ⟨CacheV.new_good sets ways, rfl, by unfold ZiG; simpa using h2.2.2, fun x hx => (by cases hx), fun s hs => ?_⟩
  unfold ZiG at hs ⊢
  simp only [List.length_replicate] at hs
  rw [List.getD_eq_getElem?_getD]
  simp [hs]
theorem put (h : Mir S W C L) {k : Int} {r : List (Int × Int)} (hr : (r.length : Int) <= C.ways) (e : r = L'.filter fun x => cls S x.1 == cls S k)
    (ho : ∀ s, s ≠ cls S k -> (L'.filter fun x => cls S x.1 == s) = L.filter fun x => cls S x.1 == s) (hn : ∀ x ∈ L', 0 <= x.1) : Mir S W (C.put k r) L' := by
  refine ⟨h.good.put k hr, h.ways, by rw [CacheV.put_len]; exact h.len, hn, fun s hs => ?_⟩
  rw [CacheV.put_len] at hs
  unfold CacheV.put
  rw [List.getD_eq_getElem?_getD]
  by_cases he : s = cls S k
  · rw [he, h.at_eq, List.getElem?_set_self (by omega), e]; rfl
  · rw [h.at_eq, List.getElem?_set_ne (fun h => he h.symm), ho s he, <- List.getD_eq_getElem?_getD, h.row s hs]
theorem split (h : Mir S W C L) {k : Int} (hi : 0 <= idxK k L) : 0 <= k /\ ∃ a x b, L = a ++ x :: b /\ x.1 = k /\ (idxK k L).toNat = a.length /\
    C.row k = (a.filter fun x => cls S x.1 == cls S k) ++ x :: (b.filter fun x => cls S x.1 == cls S k) /\ idxK k (C.row k) = ((a.filter fun x => cls S x.1 == cls S k).length : Int) := by
  obtain ⟨a, x, b, h1, h2, h3, h4⟩ := Zfu hi
  have hr := h.row_k k
  have e : C.row k = (a.filter fun x => cls S x.1 == cls S k) ++ x :: (b.filter fun x => cls S x.1 == cls S k) := by
    rw [hr, h1, List.filter_append, List.filter_cons_of_pos (by simp [h2])]
  refine ⟨by rw [<- h2]; exact h.nn x (by rw [h1]; simp), a, x, b, h1, h2, h3, e, ?_⟩
  rw [e]
  refine ZvX ?_ h2
  rw [List.any_eq_false] at h4 ⊢
  exact fun y hy => h4 y (List.mem_filter.1 hy).1
theorem idx_neg (h : Mir S W C L) {k : Int} (hi : ¬ 0 <= idxK k L) : ¬ 0 <= idxK k (C.row k) := by
  have h1 := ZvW hi
  rw [ZiQ]
  · omega
  · rw [h.row_k, List.any_eq_false]
    rw [List.any_eq_false] at h1
    exact fun y hy => h1 y (List.mem_filter.1 hy).1
theorem hasB (h : Mir S W C L) (k : Int) : C.hasB k = decide (0 <= idxK k L) := by
  by_cases hi : 0 <= idxK k L
  · obtain ⟨h0, a, x, b, h1, h2, h3, h4, h5⟩ := h.split hi
    rw [decide_eq_true hi]
    exact CacheV.hasB_spec.2 ⟨h0, by omega⟩
  · rw [decide_eq_false hi]
    refine Bool.eq_false_iff.2 fun hb => ?_
    exact h.idx_neg hi (CacheV.hasB_spec.1 hb).2
theorem old (h : Mir S W C L) (k : Int) : C.oldL k = Zax S k L := by
  unfold CacheV.oldL Zax
  by_cases h0 : k < 0
  · rw [if_pos h0, if_pos h0]
  · rw [if_neg h0, if_neg h0, h.row_k]
    show List.map _ _ = List.map _ _
    congr 1
    exact List.filter_congr fun x hx => (ZAw h.s1 (h.nn x hx) (by omega)).symm
theorem setR (h : Mir S W C L) (k v : Int) : C.setR k v = ZaS S W k L := by
  unfold CacheV.setR ZaS
  by_cases h0 : k < 0
  · rw [if_pos h0, if_pos h0]
  · rw [if_neg h0, if_neg h0, <- h.old k, h.ways]
    have ho : (C.oldL k).length = (C.row k).length := by unfold CacheV.oldL Za1; rw [if_neg h0, List.length_map]
    rw [ho]
    unfold CacheV.idx
    by_cases hi : 0 <= idxK k L
    · obtain ⟨_, a, x, b, h1, h2, h3, h4, h5⟩ := h.split hi
      rw [if_pos (by omega), if_neg (by omega)]
    · rw [if_neg (h.idx_neg hi)]
      by_cases hw : W <= ((C.row k).length : Int)
      · rw [if_pos hw, if_pos ⟨by omega, hw⟩]
      · rw [if_neg hw, if_neg (by omega)]
theorem room (h : Mir S W C L) (k : Int) : C.roomB k = (ZaS S W k L == 0) := by rw [CacheV.room_set C k 0, h.setR]
theorem other {a b : List (Int × Int)} {x y : Int × Int} {S k : Int} (hx : x.1 = k) (hy : y.1 = k) {s : Nat} (hs : s ≠ cls S k) :
    ((a ++ b ++ [y]).filter fun z => cls S z.1 == s) = (a ++ x :: b).filter fun z => cls S z.1 == s := by
  have e1 : (cls S x.1 == s) = false := by rw [hx]; simpa using fun h => hs h.symm
  have e2 : (cls S y.1 == s) = false := by rw [hy]; simpa using fun h => hs h.symm
  simp [List.filter_append, List.filter_cons, e1, e2]
theorem Zm4 {a b : List (Int × Int)} {x : Int × Int} {i : Int} (h : i.toNat = a.length) : Zbs i (a ++ x :: b) = a ++ b := by
  unfold Zbs
  rw [h, List.take_left' rfl, <- List.drop_drop, List.drop_left' rfl]; rfl
theorem set (h : Mir S W C L) {k v : Int} (hr : ZaS S W k L = 0) : Mir S W (C.setC k v) (ZaU k v L) := by
  have hsr := h.setR k v
  rw [hr] at hsr
  unfold CacheV.setR CacheV.idx at hsr
  unfold CacheV.setC CacheV.idx
  by_cases h0 : k < 0
  · rw [if_pos h0] at hsr; omega
  rw [if_neg h0] at hsr ⊢
  unfold ZaU
  by_cases hi : 0 <= idxK k L
  · obtain ⟨_, a, x, b, h1, h2, h3, h4, h5⟩ := h.split hi
    rw [if_pos (by omega), if_neg (by omega), h5]
    have hl : (C.row k).length = ((a.filter fun x => cls S x.1 == cls S k) ++ (b.filter fun x => cls S x.1 == cls S k) ++ [((x.1, v) : Int × Int)]).length := by rw [h4]; simp
    rw [h4, ZjP (by omega), ZcF (by omega), h1, Zm4 (by rw [<- h1]; exact h3)]
    subst h2
    refine h.put (by rw [<- hl]; exact h.good.len _ (CacheV.row_mem h.good.s1 _)) ?_ (fun s hs => ?_) (fun y hy => ?_)
    · simp [List.filter_append]
    · rw [h1]; exact other (x := x) (y := (x.1, v)) rfl rfl hs
    · rcases List.mem_append.1 hy with hy | hy
      · exact h.nn y (by rw [h1]; rcases List.mem_append.1 hy with hy | hy <;> simp [hy])
      · obtain rfl := List.mem_singleton.1 hy; simp only; omega
  · have hi2 := h.idx_neg hi
    rw [if_neg hi2] at hsr ⊢
    by_cases hw : C.ways <= ((C.row k).length : Int)
    · rw [if_pos hw] at hsr; omega
    rw [if_neg hw, if_pos (show idxK k L < 0 by omega)]
    refine h.put (by simp; omega) ?_ (fun s hs => ?_) (fun y hy => ?_)
    · rw [List.filter_append, <- h.row_k, List.filter_cons_of_pos (by simp)]; rfl
    · rw [List.filter_append, List.filter_cons_of_neg (by simpa using fun h => hs h.symm)]; simp
    · rcases List.mem_append.1 hy with hy | hy
      · exact h.nn y hy
      · obtain rfl := List.mem_singleton.1 hy; simp only; omega
theorem setC_no (h : Mir S W C L) {k v : Int} (hr : ZaS S W k L ≠ 0) : C.setC k v = C := by
  have hsr := h.setR k v
  unfold CacheV.setR at hsr
  unfold CacheV.setC
  by_cases h0 : k < 0
  · rw [if_pos h0]
  rw [if_neg h0] at hsr ⊢
  by_cases hi : 0 <= C.idx k
  · rw [if_pos hi] at hsr; omega
  rw [if_neg hi] at hsr ⊢
  by_cases hw : C.ways <= ((C.row k).length : Int)
  · rw [if_pos hw]
  · rw [if_neg hw] at hsr; omega
theorem dropC_no (h : Mir S W C L) {k : Int} (hi : ¬ 0 <= idxK k L) : C.dropC k = C := by
  unfold CacheV.dropC; rw [h.hasB, decide_eq_false hi]; rfl
theorem touchC_no (h : Mir S W C L) {k : Int} (hi : ¬ 0 <= idxK k L) : C.touchC k = C := by
  unfold CacheV.touchC; rw [h.hasB, decide_eq_false hi]; rfl
theorem drop (h : Mir S W C L) {k : Int} (hi : 0 <= idxK k L) : Mir S W (C.dropC k) (Zbs (idxK k L) L) := by
  unfold CacheV.dropC CacheV.idx
  rw [h.hasB, decide_eq_true hi, if_pos rfl]
  obtain ⟨h0, a, x, b, h1, h2, h3, h4, h5⟩ := h.split hi
  have hlen := h.good.len _ (CacheV.row_mem h.good.s1 k)
  rw [h5, h4, ZhL (by omega) (by omega)]
  have hc : Zbs (idxK k L) L = a ++ b := by rw [h1, Zm4 (by rw [<- h1]; exact h3)]
  rw [hc]
  subst h2
  refine h.put (by rw [h4] at hlen; simp at hlen ⊢; omega) ?_ (fun s hs => ?_) (fun y hy => ?_)
  · simp [List.filter_append]
  · rw [h1]
    have e1 : (cls S x.1 == s) = false := by simpa using fun h => hs h.symm
    simp [List.filter_append, List.filter_cons, e1]
  · exact h.nn y (by rw [h1]; rcases List.mem_append.1 hy with hy | hy <;> simp [hy])
theorem touch (h : Mir S W C L) {k : Int} (hi : 0 <= idxK k L) : Mir S W (C.touchC k) (ZaY (idxK k L) L) := by
  unfold CacheV.touchC CacheV.idx
  rw [h.hasB, decide_eq_true hi, if_pos rfl]
  obtain ⟨h0, a, x, b, h1, h2, h3, h4, h5⟩ := h.split hi
  have hlen := h.good.len _ (CacheV.row_mem h.good.s1 k)
  rw [h5, h4, ZcF (by omega)]
  have hc : ZaY (idxK k L) L = a ++ b ++ [x] := by
    have := ZcF (a := a) (b := b) (x := x) (i := idxK k L) h3
    rw [<- h1] at this; exact this
  rw [hc]
  subst h2
  refine h.put (by rw [h4] at hlen; simp at hlen ⊢; omega) ?_ (fun s hs => ?_) (fun y hy => ?_)
  · simp [List.filter_append]
  · rw [h1]; exact other (x := x) rfl rfl hs
  · exact h.nn y (by rw [h1]; simp at hy ⊢; rcases hy with hy | hy | hy <;> simp [hy])
theorem getA (h : Mir S W C L) {k : Int} (hi : 0 <= idxK k L) : C.getA k = (L.getD (idxK k L).toNat (Tup.dflt Zaa)).2 := by
  unfold CacheV.getA CacheV.idx
  rw [h.hasB, decide_eq_true hi, if_pos rfl]
  obtain ⟨h0, a, x, b, h1, h2, h3, h4, h5⟩ := h.split hi
  have e : ∀ (a b : List (Int × Int)), (a ++ x :: b).getD a.length (Tup.dflt Zaa) = x := fun a b => by
    rw [List.getD_eq_getElem?_getD, List.getElem?_append_right (Nat.le_refl _)]; simp
  unfold ZG8
  rw [h5, h3, h4]
  rw [show ∀ n : Nat, ((n : Int)).toNat = n from fun n => by omega, e]
  have := e a b
  rw [<- h1] at this
  rw [this]
theorem getA_no (h : Mir S W C L) {k : Int} (hi : ¬ 0 <= idxK k L) : C.getA k = 0 := by
  unfold CacheV.getA; rw [h.hasB, decide_eq_false hi]; rfl
theorem keys (h : Mir S W C L) : C.keysL = Za7 (Za1 L) := by
  refine ZnJ ?_
  have e : C.rows.flatMap Za1 = Za1 ((List.range C.rows.length).flatMap fun s => L.filter fun x => cls S x.1 == s) := by
    rw [<- Ze1 Za1 [] C.rows]
    unfold Za1
    rw [List.map_flatMap]
    rw [List.flatMap_def, List.flatMap_def]
    congr 1
    refine List.map_congr_left fun s hs => ?_
    rw [h.row s (List.mem_range.1 hs)]
  rw [e]
  have hp := (ZjW (f := fun x : Int × Int => cls S x.1) (l := L) C.rows.length).map (fun x => x.1)
  refine hp.trans ?_
  rw [List.filter_eq_self.2 fun x hx => ?_]
  · exact List.Perm.refl _
  · have := CacheV.at_lt h.good.s1 x.1
    rw [h.at_eq] at this
    simpa using this
theorem set_len {k v : Int} : (ZaU k v L).length <= L.length + 1 := by
  unfold ZaU
  split
  · simp
  · have hl := @idxK_lt k L
    rw [List.length_append, ZcW (by omega) hl.2]; simp
end Mir
end Go.Sx
