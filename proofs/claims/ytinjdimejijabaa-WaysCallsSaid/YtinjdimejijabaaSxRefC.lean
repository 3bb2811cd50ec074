/- Part of the proof: SxRefC. -/
import Derived.Test.YtinjdimejijabaaSxKeys
import Derived.Test.YtinjdimejijabaaSxCacheN
set_option linter.unusedVariables false
set_option linter.unusedSimpArgs false
namespace Go.Sx
def Zbs (i : Int) (xs : List (Tup Zaa)) : List (Tup Zaa) := xs.take i.toNat ++ xs.drop (i.toNat + 1)
def Zax (sets k : Int) (xs : List (Tup Zaa)) : List Int := if k < 0 then [] else (xs.filter fun x => Int.tmod x.1 sets == Int.tmod k sets).map (·.1)
def ZaS (sets ways k : Int) (xs : List (Tup Zaa)) : Int := if k < 0 then 1 else if idxK k xs < 0 /\ ways <= ((Zax sets k xs).length : Int) then 5 else 0
def ZaU (k v : Int) (xs : List (Tup Zaa)) : List (Tup Zaa) := (if idxK k xs < 0 then xs else Zbs (idxK k xs) xs) ++ [((k, v) : Tup Zaa)]
theorem ZcW {i : Int} {xs : List (Tup Zaa)} (h0 : 0 <= i) (h : i < xs.length) : (Zbs i xs).length = xs.length - 1 := by
  unfold Zbs; simp; omega
end Go.Sx
namespace Go.Sx
theorem ZnN {sets k : Int} {xs : List (Tup Zaa)} {i : Nat} (h : i < xs.length) (hk : 0 <= k) :
    Zax sets k (xs.take (i + 1)) = Zax sets k (xs.take i) ++ (if (Int.tmod (xs.getD i (Tup.dflt Zaa)).1 sets == Int.tmod k sets) = true then [(xs.getD i (Tup.dflt Zaa)).1] else []) := by
  unfold Zax
  rw [if_neg (by omega), if_neg (by omega), Zcx h, List.filter_append, List.map_append]
  congr 1
  by_cases hb : (Int.tmod (xs.getD i (Tup.dflt Zaa)).1 sets == Int.tmod k sets) = true
  · rw [if_pos hb, List.filter_cons_of_pos (by exact hb)]; rfl
  · rw [if_neg hb, List.filter_cons_of_neg (by exact hb)]; rfl
theorem ZtB {sets k : Int} {xs : List (Tup Zaa)} : (Zax sets k xs).length <= xs.length := by
  unfold Zax
  split
  · simp
  · rw [List.length_map]; exact List.length_filter_le _ _
theorem ZHh {xs : List (Tup Zaa)} {i : Int} {n c : Nat} (hl : xs.length = n) (h0 : 0 <= i) (h1 : i < n) (hc : n <= c) :
    [] ++ List.take (i.toNat - 0) (List.drop 0 xs) ++ List.take (n - (i + 1).toNat) (List.drop (0 + if c = (i + 1).toNat then 0 else (i + 1).toNat) xs) = Zbs i xs := by
  unfold Zbs
  have e : (i + 1).toNat = i.toNat + 1 := by omega
  rw [e]
  by_cases hcc : c = i.toNat + 1
  · rw [if_pos hcc, show n - (i.toNat + 1) = 0 by omega, List.drop_of_length_le (show xs.length <= i.toNat + 1 by omega)]
    simp
  · rw [if_neg hcc, Nat.zero_add, List.take_of_length_le (l := List.drop (i.toNat + 1) xs) (by simp; omega)]
    simp
end Go.Sx
