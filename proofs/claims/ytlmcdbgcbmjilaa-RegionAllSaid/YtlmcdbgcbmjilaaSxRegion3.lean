/- All that stands in memory, one behind the other, in plain Lean. -/
import Derived.Test.YtlmcdbgcbmjilaaSxRegion2
import Derived.Test.YtlmcdbgcbmjilaaSxV1
set_option linter.unusedVariables false
set_option linter.unusedSimpArgs false
namespace Go.Sx
abbrev PartT := Tup sh_7i64
namespace PlanV
def partD (i : Nat) : PartT := (1, (i : Int), 0, 0, 0, (i : Int) * 32, 32)
def partT (n : Int) (i : Nat) : PartT := (2, (i : Int), 0, 0, 0, n * 32 + (i : Int) * 8, 8)
def partI (at0 : Int) (l i : Nat) : PartT := (3, 0, (l : Int), (i : Int), 0, at0 + (i : Int) * 32, 32)
def partsD (n : Nat) : List PartT := (List.range n).map partD
def partsT (p : PlanV) (n : Nat) : List PartT := (List.range n).map (partT p.all)
def partsI (p : PlanV) (l n : Nat) : List PartT := (List.range n).map (partI (p.itemsAt + p.ahead l * 32) l)
def partsL (p : PlanV) (l : Nat) : List PartT := (List.range l).flatMap fun j => p.partsI j (p.width j).toNat
def parts (p : PlanV) : List PartT := if p.right = true then partsD p.all.toNat ++ p.partsT p.all.toNat ++ p.partsL p.levels else []
theorem partsD_succ (n : Nat) : partsD (n + 1) = partsD n ++ [partD n] := by simp [partsD, List.range_succ]
theorem partsT_succ (p : PlanV) (n : Nat) : p.partsT (n + 1) = p.partsT n ++ [partT p.all n] := by simp [partsT, List.range_succ]
theorem partsI_succ (p : PlanV) (l n : Nat) : p.partsI l (n + 1) = p.partsI l n ++ [partI (p.itemsAt + p.ahead l * 32) l n] := by simp [partsI, List.range_succ]
theorem partsL_succ (p : PlanV) (l : Nat) : p.partsL (l + 1) = p.partsL l ++ p.partsI l (p.width l).toNat := by simp [partsL, List.range_succ]
def pPlace (q : PartT) : PlaceV := ⟨q.1, q.2.1, q.2.2.1, q.2.2.2.1, q.2.2.2.2.1⟩
def pAt (q : PartT) : Int := q.2.2.2.2.2.1
def pN (q : PartT) : Int := q.2.2.2.2.2.2
/-- What is where, by looking through all. -/
def eqPlace (a b : PlaceV) : Bool := a.pkind == b.pkind && a.pline == b.pline && a.plevel == b.plevel && a.pindex == b.pindex && a.poff == b.poff
def findIn (l : List PartT) (x : PlaceV) : Option PartT := l.find? fun q => eqPlace (pPlace q) x
def placeIn (l : List PartT) (a : Int) : Option PartT := l.find? fun q => decide (pAt q ≤ a) && decide (a < pAt q + pN q)
def findB (p : PlanV) (x : PlaceV) : Bool := (findIn p.parts x).isSome
def findAt (p : PlanV) (x : PlaceV) : Int := ((findIn p.parts x).map pAt).getD 0
def placeB (p : PlanV) (a : Int) : Bool := (placeIn p.parts a).isSome
def placeOf (p : PlanV) (a : Int) : PlaceV := ((placeIn p.parts a).map fun q => ⟨q.1, q.2.1, q.2.2.1, q.2.2.2.1, a - pAt q⟩).getD ⟨0, 0, 0, 0, 0⟩
def codeOf (p : PlanV) (a n : Int) : Int := if p.right = true then (if n = 1 ∨ n = 2 ∨ n = 4 ∨ n = 8 then (if 0 ≤ a ∧ a < p.tags then (if a % n = 0 then 0 else 9) else 2) else 1) else 4
def lnOf (p : PlanV) (a n : Int) : Int := if p.codeOf a n = 0 then a / 32 else 0
def offOf (p : PlanV) (a n : Int) : Int := if p.codeOf a n = 0 then a % 32 else 0
end PlanV
/-- A row that grows: its length, its room. -/
def rowInv (L : List PartT) (l c n x : Nat) : Prop := n = l ∧ l = L.length ∧ l * 7 + x = c * 7
theorem rowInv_step {L : List PartT} {l c n x c' : Nat} (q : PartT) (h : rowInv L l c n x) (hc : l + 1 ≤ c') : rowInv (L ++ [q]) (l + 1) c' (l + 1) ((c' - (l + 1)) * 7) := by
  obtain ⟨h1, h2, h3⟩ := h
  refine ⟨rfl, by simp [h2], by omega⟩
namespace PlanV
theorem partsD_len (n : Nat) : (partsD n).length = n := by simp [partsD]
theorem partsT_len (p : PlanV) (n : Nat) : (p.partsT n).length = n := by simp [partsT]
theorem partsI_len (p : PlanV) (l n : Nat) : (p.partsI l n).length = n := by simp [partsI]
theorem partsL_len (p : PlanV) : ∀ l : Nat, (p.partsL l).length ≤ 16 * l
  | 0 => by simp [partsL]
  | l + 1 => by
    rw [partsL_succ, List.length_append, partsI_len]
    have := partsL_len p l
    have := width_le p l
    omega
theorem levels_le (p : PlanV) : p.levels ≤ 5 := by unfold levels; exact widths_len p
end PlanV
end Go.Sx
