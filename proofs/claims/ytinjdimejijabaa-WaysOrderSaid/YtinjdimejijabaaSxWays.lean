/- Part of the proof: SxWays. -/
import Derived.Test.YtinjdimejijabaaSxG
import Derived.Test.YtinjdimejijabaaSxFitV
set_option linter.unusedVariables false
set_option linter.unusedSimpArgs false
namespace Go.Sx
abbrev ZgZ (k : Int) (x : Tup Zaa) : Bool := x.1 == k
def idxK (k : Int) (xs : List (Tup Zaa)) : Int := if xs.any (ZgZ k) = true then (xs.findIdx (ZgZ k) : Int) else -1
theorem ZqD {k : Int} {xs : List (Tup Zaa)} (h : xs.any (ZgZ k) = false) : idxK k xs = -1 := by unfold idxK; rw [if_neg (by rw [h]; decide)]
theorem ZuE {k : Int} {xs : List (Tup Zaa)} {i : Nat} (hi : i < xs.length) (ha : (xs.take i).any (ZgZ k) = false) (hb : ZgZ k (xs.getD i (Tup.dflt Zaa)) = true) : idxK k xs = (i : Int) := by
  have hg : xs.getD i (Tup.dflt Zaa) = xs[i] := by simp [List.getD_eq_getElem?_getD, hi]
  rw [hg] at hb
  have h1 : xs.findIdx (ZgZ k) = i := by
    rw [List.findIdx_eq hi]
    refine ⟨hb, fun j hj => ?_⟩
    rw [List.any_eq_false] at ha
    have := ha xs[j] (by rw [List.mem_take_iff_getElem]; exact ⟨j, by omega, rfl⟩)
    simpa using this
  unfold idxK
  rw [if_pos (List.any_eq_true.2 ⟨_, List.getElem_mem hi, hb⟩), h1]
theorem idxK_lt {k : Int} {xs : List (Tup Zaa)} : -1 <= idxK k xs /\ idxK k xs < xs.length := by
  unfold idxK
  split
  · rename_i h
    obtain ⟨x, hx, hb⟩ := List.any_eq_true.1 h
    have := List.findIdx_lt_length_of_exists (p := ZgZ k) ⟨x, hx, hb⟩
    omega
  · omega
def ZaI (i j : Int) (xs : List (Tup Zaa)) : List (Tup Zaa) := xs.take i.toNat ++ xs.drop j.toNat ++ List.replicate (j.toNat - i.toNat) (Tup.dflt Zaa)
def ZaW (i : Int) (xs : List (Tup Zaa)) : List (Tup Zaa) := xs.take i.toNat ++ xs.drop (i.toNat + 1) ++ [xs.getD i.toNat (Tup.dflt Zaa)]
def ZkA (i v : Int) (xs : List (Tup Zaa)) : List (Tup Zaa) := xs.set i.toNat ((xs.getD i.toNat (Tup.dflt Zaa)).1, v)
def ZAi (i : Int) (xs : List (Tup Zaa)) : Int := (xs.getD i.toNat (Tup.dflt Zaa)).2
def ZaQ (xs : List (Tup Zaa)) : List Int := xs.map (fun x => x.1)
theorem ZdP {i j : Int} {xs : List (Tup Zaa)} (h0 : 0 <= i) (h1 : i <= j) (h2 : j <= xs.length) : (ZaI i j xs).length = xs.length := by
  unfold ZaI; simp; omega
theorem delRow_same {i : Int} {xs : List (Tup Zaa)} : ZaI i i xs = xs := by
  unfold ZaI; simp
theorem Zcx {i : Int} {xs : List (Tup Zaa)} (h0 : 0 <= i) (h2 : i < xs.length) : (ZaW i xs).length = xs.length := by
  unfold ZaW; simp; omega
theorem ZeT {xs : List (Tup Zaa)} {i : Nat} (h : i < xs.length) : xs.take (i + 1) = xs.take i ++ [xs.getD i (Tup.dflt Zaa)] := by
  rw [List.take_add_one, List.getElem?_eq_getElem h, List.getD_eq_getElem?_getD, List.getElem?_eq_getElem h]; rfl
theorem ZqR {i j : Int} {n c : Nat} {s : List (Tup Zaa)} (hl : s.length = n) (hc : n <= c) (h0 : 0 <= i) (h1 : i < j) (h2 : j <= n) (q : Nat) (hq : q = j.toNat ∨ n - j.toNat = 0) :
    List.take (i.toNat + (n - j.toNat)) (List.take i.toNat s ++ List.take (n - j.toNat) (List.drop q s) ++ List.drop (i.toNat + (n - j.toNat)) s) ++ List.replicate (n - (i.toNat + (n - j.toNat))) (Tup.dflt Zaa) ++
      List.drop n (List.take i.toNat s ++ List.take (n - j.toNat) (List.drop q s) ++ List.drop (i.toNat + (n - j.toNat)) s) = ZaI i j s := by
  have e1 : List.take (n - j.toNat) (List.drop q s) = List.drop j.toNat s := by
    rcases hq with rfl | hq
    · exact List.take_of_length_le (by simp; omega)
    · rw [hq, List.take_zero, List.drop_of_length_le (by omega)]
  rw [e1]
  have e2 : (List.take i.toNat s ++ List.drop j.toNat s).length = i.toNat + (n - j.toNat) := by simp; omega
  have e3 : List.drop n (List.take i.toNat s ++ List.drop j.toNat s ++ List.drop (i.toNat + (n - j.toNat)) s) = [] := List.drop_of_length_le (by simp; omega)
  rw [List.append_assoc, List.take_append_of_le_length (by rw [e2]; exact Nat.le_refl _), <- List.append_assoc] <;> try rfl
  rw [e3]
  unfold ZaI
  rw [show n - (i.toNat + (n - j.toNat)) = j.toNat - i.toNat by omega, List.append_nil, List.take_of_length_le (Nat.le_of_eq e2)]
theorem Zp9 {i : Int} {n : Nat} {xs : List (Tup Zaa)} (hl : xs.length = n) (h0 : 0 <= i) (h1 : i < n) :
    List.take (n - 1) (ZaI i (i + 1) xs) ++ List.take 1 (List.drop 0 [xs.getD i.toNat (Tup.dflt Zaa)]) ++ List.drop n (ZaI i (i + 1) xs) = ZaW i xs := by
  have e2 : (List.take i.toNat xs ++ List.drop (i + 1).toNat xs).length = n - 1 := by simp; omega
  have e3 : List.drop n (ZaI i (i + 1) xs) = [] := List.drop_of_length_le (by rw [ZdP h0 (by omega) (by omega)]; omega)
  rw [e3, List.append_nil]
  unfold ZaI ZaW
  rw [List.take_left' e2, show (i + 1).toNat = i.toNat + 1 by omega]
  rfl
end Go.Sx
