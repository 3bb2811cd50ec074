/- Two parts of the proof. -/
import Derived.Test.YtinjdimejijabaaSxFitV
import Derived.Test.YtinjdimejijabaaSxV1
set_option linter.unusedVariables false
set_option linter.unusedSimpArgs false
namespace Go.Sx
namespace PlanV
theorem ZiG {p : PlanV} {x : ItemV} (h : p.itemB x = true) : p.itemAt x = p.itemsAt + (p.ahead x.level + x.index) * 32 := by unfold itemAt; rw [if_pos h]
theorem Zun {p : PlanV} {x y : ItemV} (hx : p.itemB x = true) (hy : p.itemB y = true) (h : x.level < y.level) : p.ahead x.level + x.index < p.ahead y.level + y.index := by
  obtain ⟨g1, g2, g3⟩ := Zl8 hx
  obtain ⟨k1, k2, k3⟩ := Zl8 hy
  obtain ⟨g4, g5⟩ := Zp9 (p := p) (l := x.level) (by omega)
  obtain ⟨m, hm⟩ := Int.eq_ofNat_of_zero_le g4
  obtain ⟨n, hn⟩ := Int.eq_ofNat_of_zero_le (show 0 <= y.level by omega)
  have a1 := p.ahead_mono (l := m + 1) (m := n) (by omega)
  have a2 := p.ahead_succ m
  rw [Int.natCast_add, Int.natCast_one, a2, <- hn, <- hm] at a1
  omega
theorem ZuJ {p : PlanV} {x y : ItemV} (hx : p.itemB x = true) (hy : p.itemB y = true) : p.itemAt x = p.itemAt y ↔ x.level = y.level /\ x.index = y.index := by
  rw [ZiG hx, ZiG hy]
  refine ⟨fun h => ?_, fun h => by rw [h.1, h.2]⟩
  rcases Int.lt_trichotomy x.level y.level with hl | hl | hl
  · have := Zun hx hy hl; omega
  · rw [hl] at h; omega
  · have := Zun hy hx hl; omega
end PlanV
end Go.Sx

set_option linter.unusedVariables false
set_option linter.unusedSimpArgs false
namespace Go.Sx
abbrev ZfO := Tup Zac
namespace PlanV
def partD (i : Nat) : ZfO := (1, (i : Int), 0, 0, 0, (i : Int) * 32, 32)
def partT (n : Int) (i : Nat) : ZfO := (2, (i : Int), 0, 0, 0, n * 32 + (i : Int) * 8, 8)
def partI (at0 : Int) (l i : Nat) : ZfO := (3, 0, (l : Int), (i : Int), 0, at0 + (i : Int) * 32, 32)
def partsD (n : Nat) : List ZfO := (List.range n).map partD
def partsT (p : PlanV) (n : Nat) : List ZfO := (List.range n).map (partT p.all)
def partsI (p : PlanV) (l n : Nat) : List ZfO := (List.range n).map (partI (p.itemsAt + p.ahead l * 32) l)
def partsL (p : PlanV) (l : Nat) : List ZfO := (List.range l).flatMap fun j => p.partsI j (p.width j).toNat
def parts (p : PlanV) : List ZfO := if p.right = true then partsD p.all.toNat ++ p.partsT p.all.toNat ++ p.partsL p.levels else []
theorem partsD_succ (n : Nat) : partsD (n + 1) = partsD n ++ [partD n] := by simp [partsD, List.range_succ]
theorem partsT_succ (p : PlanV) (n : Nat) : p.partsT (n + 1) = p.partsT n ++ [partT p.all n] := by simp [partsT, List.range_succ]
theorem partsI_succ (p : PlanV) (l n : Nat) : p.partsI l (n + 1) = p.partsI l n ++ [partI (p.itemsAt + p.ahead l * 32) l n] := by simp [partsI, List.range_succ]
theorem partsL_succ (p : PlanV) (l : Nat) : p.partsL (l + 1) = p.partsL l ++ p.partsI l (p.width l).toNat := by simp [partsL, List.range_succ]
def pAt (q : ZfO) : Int := q.2.2.2.2.2.1
def pN (q : ZfO) : Int := q.2.2.2.2.2.2
def placeIn (l : List ZfO) (a : Int) : Option ZfO := l.find? fun q => decide (pAt q <= a) && decide (a < pAt q + pN q)
def placeB (p : PlanV) (a : Int) : Bool := (placeIn p.parts a).isSome
def placeOf (p : PlanV) (a : Int) : PlaceV := ((placeIn p.parts a).map fun q => ⟨q.1, q.2.1, q.2.2.1, q.2.2.2.1, a - pAt q⟩).getD ⟨0, 0, 0, 0, 0⟩
def codeOf (p : PlanV) (a n : Int) : Int := if p.right = true then (if n = 1 ∨ n = 2 ∨ n = 4 ∨ n = 8 then (if 0 <= a /\ a < p.tags then (if a % n = 0 then 0 else 9) else 2) else 1) else 4
def lnOf (p : PlanV) (a n : Int) : Int := if p.codeOf a n = 0 then a / 32 else 0
def offOf (p : PlanV) (a n : Int) : Int := if p.codeOf a n = 0 then a % 32 else 0
end PlanV
def Zeg (L : List ZfO) (l c n x : Nat) : Prop := n = l /\ l = L.length /\ l * 7 + x = c * 7
theorem ZhK {L : List ZfO} {l c n x c' : Nat} (q : ZfO) (h : Zeg L l c n x) (hc : l + 1 <= c') : Zeg (L ++ [q]) (l + 1) c' (l + 1) ((c' - (l + 1)) * 7) := by
  obtain ⟨h1, h2, h3⟩ := h
  refine ⟨rfl, by simp [h2], by omega⟩
namespace PlanV
theorem partsD_len (n : Nat) : (partsD n).length = n := by simp [partsD]
theorem partsT_len (p : PlanV) (n : Nat) : (p.partsT n).length = n := by simp [partsT]
theorem partsI_len (p : PlanV) (l n : Nat) : (p.partsI l n).length = n := by simp [partsI]
theorem partsL_len (p : PlanV) : ∀ l : Nat, (p.partsL l).length <= 16 * l
  | 0 => by simp [partsL]
  | l + 1 => by
    rw [partsL_succ, List.length_append, partsI_len]
    have := partsL_len p l
    have := width_le p l
    omega
theorem levels_le (p : PlanV) : p.levels <= 5 := by unfold levels; exact Zur p
end PlanV
end Go.Sx
