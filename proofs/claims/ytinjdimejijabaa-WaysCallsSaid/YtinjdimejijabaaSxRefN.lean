/- Part of the proof: SxRefN. -/
import Derived.Test.YtinjdimejijabaaSxRefC
import Derived.Test.YtinjdimejijabaaSxSortI
set_option linter.unusedVariables false
set_option linter.unusedSimpArgs false
namespace Go.Sx
theorem ZgT (xs : List Int) : (Za7 xs).Perm xs := List.mergeSort_perm ..
theorem ZkC (xs : List Int) : (Za7 xs).Pairwise fun x y => decide (x <= y) = true :=
  List.pairwise_mergeSort (fun a b c h1 h2 => by simp only [decide_eq_true_eq] at h1 h2 ⊢; omega) (fun a b => by simp only [Bool.or_eq_true, decide_eq_true_eq]; omega) xs
theorem Zqt {s xs : List Int} (hp : s.Perm xs) (hs : s.Pairwise fun x y => decide (x <= y) = true) : s = Za7 xs :=
  List.Perm.eq_of_pairwise (le := fun x y => decide (x <= y) = true) (fun a b _ _ h1 h2 => by simp only [decide_eq_true_eq] at h1 h2; omega) hs (ZkC xs) (hp.trans (ZgT xs).symm)
theorem ZnJ {xs ys : List Int} (h : xs.Perm ys) : Za7 xs = Za7 ys := Zqt ((ZgT xs).trans h) (ZkC xs)
theorem Ztt {ks : List Int} {x : Int} {k : Nat} (hk : k <= ks.length) (ha : ∀ j, k <= j -> j < ks.length -> x < (Za7 ks).getD j 0) (hb : k = 0 ∨ (Za7 ks).getD (k - 1) 0 <= x) :
    (Za7 ks).take k ++ [x] ++ (Za7 ks).drop k = Za7 (ks ++ [x]) := by
  have hl := Zbw ks
  have hpw' := ZkC ks
  generalize hS : Za7 ks = S at *
  have hSp : S.Perm ks := hS ▸ ZgT ks
  refine Zqt ?_ ?_
  · refine List.Perm.trans ?_ (hSp.append_right [x])
    rw [List.append_assoc]
    refine (List.Perm.append_left _ List.perm_append_comm).trans ?_
    rw [<- List.append_assoc, List.take_append_drop]
  · have hpw := List.pairwise_iff_getElem.1 hpw'
    have hlt : ∀ a ∈ S.take k, a <= x := by
      intro a hm
      obtain ⟨i, hi, rfl⟩ := List.mem_iff_getElem.1 hm
      rw [List.length_take] at hi
      rcases hb with hb | hb
      · omega
      · rw [List.getElem_take]
        rw [List.getD_eq_getElem?_getD, List.getElem?_eq_getElem (by omega)] at hb; replace hb : S[k - 1] <= x := hb
        by_cases he : i = k - 1
        · subst he; exact hb
        · have := of_decide_eq_true (hpw i (k - 1) (by omega) (by omega) (by omega)); omega
    have hgt : ∀ b ∈ S.drop k, x < b := by
      intro b hm
      obtain ⟨i, hi, rfl⟩ := List.mem_iff_getElem.1 hm
      rw [List.length_drop] at hi
      rw [List.getElem_drop]
      have := ha (k + i) (by omega) (by omega)
      rw [List.getD_eq_getElem?_getD, List.getElem?_eq_getElem (by omega)] at this; exact this
    refine List.pairwise_append.2 ⟨List.pairwise_append.2 ⟨hpw'.sublist (List.take_sublist ..), List.pairwise_singleton .., ?_⟩, hpw'.sublist (List.drop_sublist ..), ?_⟩
    · intro a ha2 b hb2
      rw [List.mem_singleton] at hb2
      subst hb2
      exact decide_eq_true (hlt a ha2)
    · intro a ha2 b hb2
      rcases List.mem_append.1 ha2 with h | h
      · exact decide_eq_true (by have := hlt a h; have := hgt b hb2; omega)
      · rw [List.mem_singleton] at h
        subst h
        exact decide_eq_true (by have := hgt b hb2; omega)
theorem ZwY {xs : List Int} {n c k : Nat} (hl : xs.length = n) (hc : n <= c) (hk : k <= n) : List.take (n - k) (List.drop (0 + if c = k then 0 else k) xs) = xs.drop k := by
  by_cases hcc : c = k
  · subst hcc; rw [if_pos rfl, show n - c = 0 by omega, List.drop_of_length_le (show xs.length <= c by omega)]; rfl
  · rw [if_neg hcc, Nat.zero_add, List.take_of_length_le (by simp; omega)]
theorem ZjX {r : List (Tup Zaa)} (j : Nat) : Za1 (r.take j) = (Za1 r).take j := by unfold Za1; rw [List.map_take]
end Go.Sx
