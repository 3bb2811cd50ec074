/- Two parts of the proof. -/
import Derived.Test.YtinjdimejijabaaSxRegion
import Derived.Test.YtinjdimejijabaaSxG
set_option linter.unusedVariables false
set_option linter.unusedSimpArgs false
namespace Go.Sx
structure SpanV where
  lo : Int
  hi : Int
def SpanV.cs (x : SpanV) : List Chunk := [.one (.int .i64 x.lo), .one (.int .i64 x.hi)]
def SpanV.ok (x : SpanV) : Prop := 0 <= x.lo /\ x.lo <= x.hi /\ x.hi <= 100
end Go.Sx

namespace Go.Sx
abbrev Zgy (k : Int) (x : Tup Zaa) : Bool := x.1 == k
def idxK (k : Int) (xs : List (Tup Zaa)) : Int := if xs.any (Zgy k) = true then (xs.findIdx (Zgy k) : Int) else -1
theorem ZiQ {k : Int} {xs : List (Tup Zaa)} (h : xs.any (Zgy k) = false) : idxK k xs = -1 := by unfold idxK; rw [if_neg (by rw [h]; decide)]
theorem ZnY {k : Int} {xs : List (Tup Zaa)} {i : Nat} (hi : i < xs.length) (ha : (xs.take i).any (Zgy k) = false) (hb : Zgy k (xs.getD i (Tup.dflt Zaa)) = true) : idxK k xs = (i : Int) := by
  have hg : xs.getD i (Tup.dflt Zaa) = xs[i] := by simp [List.getD_eq_getElem?_getD, hi]
  rw [hg] at hb
  have h1 : xs.findIdx (Zgy k) = i := by
    rw [List.findIdx_eq hi]
    refine ⟨hb, fun j hj => ?_⟩
    rw [List.any_eq_false] at ha
    have := ha xs[j] (by rw [List.mem_take_iff_getElem]; exact ⟨j, by omega, rfl⟩)
    simpa using this
  unfold idxK
  rw [if_pos (List.any_eq_true.2 ⟨_, List.getElem_mem hi, hb⟩), h1]
theorem idxK_lt {k : Int} {xs : List (Tup Zaa)} : -1 <= idxK k xs /\ idxK k xs < xs.length := by
  unfold idxK
  split
  · rename_i h
    obtain ⟨x, hx, hb⟩ := List.any_eq_true.1 h
    have := List.findIdx_lt_length_of_exists (p := Zgy k) ⟨x, hx, hb⟩
    omega
  · omega
def ZaO (i j : Int) (xs : List (Tup Zaa)) : List (Tup Zaa) := xs.take i.toNat ++ xs.drop j.toNat ++ List.replicate (j.toNat - i.toNat) (Tup.dflt Zaa)
def ZaY (i : Int) (xs : List (Tup Zaa)) : List (Tup Zaa) := xs.take i.toNat ++ xs.drop (i.toNat + 1) ++ [xs.getD i.toNat (Tup.dflt Zaa)]
def ZnL (i v : Int) (xs : List (Tup Zaa)) : List (Tup Zaa) := xs.set i.toNat ((xs.getD i.toNat (Tup.dflt Zaa)).1, v)
def ZG8 (i : Int) (xs : List (Tup Zaa)) : Int := (xs.getD i.toNat (Tup.dflt Zaa)).2
def Za1 (xs : List (Tup Zaa)) : List Int := xs.map (fun x => x.1)
theorem Zei {i j : Int} {xs : List (Tup Zaa)} (h0 : 0 <= i) (h1 : i <= j) (h2 : j <= xs.length) : (ZaO i j xs).length = xs.length := by
  unfold ZaO; simp; omega
theorem delRow_same {i : Int} {xs : List (Tup Zaa)} : ZaO i i xs = xs := by
  unfold ZaO; simp
theorem ZcU {i : Int} {xs : List (Tup Zaa)} (h0 : 0 <= i) (h2 : i < xs.length) : (ZaY i xs).length = xs.length := by
  unfold ZaY; simp; omega
theorem Zcx {xs : List (Tup Zaa)} {i : Nat} (h : i < xs.length) : xs.take (i + 1) = xs.take i ++ [xs.getD i (Tup.dflt Zaa)] := by
  rw [List.take_add_one, List.getElem?_eq_getElem h, List.getD_eq_getElem?_getD, List.getElem?_eq_getElem h]; rfl
theorem ZuS {i j : Int} {n c : Nat} {s : List (Tup Zaa)} (hl : s.length = n) (hc : n <= c) (h0 : 0 <= i) (h1 : i < j) (h2 : j <= n) (q : Nat) (hq : q = j.toNat ∨ n - j.toNat = 0) :
    List.take (i.toNat + (n - j.toNat)) (List.take i.toNat s ++ List.take (n - j.toNat) (List.drop q s) ++ List.drop (i.toNat + (n - j.toNat)) s) ++ List.replicate (n - (i.toNat + (n - j.toNat))) (Tup.dflt Zaa) ++
      List.drop n (List.take i.toNat s ++ List.take (n - j.toNat) (List.drop q s) ++ List.drop (i.toNat + (n - j.toNat)) s) = ZaO i j s := by
  have e1 : List.take (n - j.toNat) (List.drop q s) = List.drop j.toNat s := by
    rcases hq with rfl | hq
    · exact List.take_of_length_le (by simp; omega)
    · rw [hq, List.take_zero, List.drop_of_length_le (by omega)]
  rw [e1]
  have e2 : (List.take i.toNat s ++ List.drop j.toNat s).length = i.toNat + (n - j.toNat) := by simp; omega
  have e3 : List.drop n (List.take i.toNat s ++ List.drop j.toNat s ++ List.drop (i.toNat + (n - j.toNat)) s) = [] := List.drop_of_length_le (by simp; omega)
  rw [List.append_assoc, List.take_append_of_le_length (by rw [e2]; exact Nat.le_refl _), <- List.append_assoc] <;> try rfl
  rw [e3]
  unfold ZaO
  rw [show n - (i.toNat + (n - j.toNat)) = j.toNat - i.toNat by omega, List.append_nil, List.take_of_length_le (Nat.le_of_eq e2)]
theorem ZtL {i : Int} {n : Nat} {xs : List (Tup Zaa)} (hl : xs.length = n) (h0 : 0 <= i) (h1 : i < n) :
    List.take (n - 1) (ZaO i (i + 1) xs) ++ List.take 1 (List.drop 0 [xs.getD i.toNat (Tup.dflt Zaa)]) ++ List.drop n (ZaO i (i + 1) xs) = ZaY i xs := by
  have e2 : (List.take i.toNat xs ++ List.drop (i + 1).toNat xs).length = n - 1 := by simp; omega
  have e3 : List.drop n (ZaO i (i + 1) xs) = [] := List.drop_of_length_le (by rw [Zei h0 (by omega) (by omega)]; omega)
  rw [e3, List.append_nil]
  unfold ZaO ZaY
  rw [List.take_left' e2, show (i + 1).toNat = i.toNat + 1 by omega]
  rfl
end Go.Sx
