/- Two parts of the proof. -/
import Derived.Test.YtinjdimejijabaaSxFitV
import Derived.Test.YtinjdimejijabaaSxV1
set_option linter.unusedVariables false
set_option linter.unusedSimpArgs false
namespace Go.Sx
namespace PlanV
end PlanV
end Go.Sx

set_option linter.unusedVariables false
set_option linter.unusedSimpArgs false
namespace Go.Sx
abbrev ZlA := Tup Zuc
namespace PlanV
def ZBU (i : Nat) : ZlA := (1, (i : Int), 0, 0, 0, (i : Int) * 32, 32)
def ZBS (n : Int) (i : Nat) : ZlA := (2, (i : Int), 0, 0, 0, n * 32 + (i : Int) * 8, 8)
def ZBT (at0 : Int) (l i : Nat) : ZlA := (3, 0, (l : Int), (i : Int), 0, at0 + (i : Int) * 32, 32)
def ZAQ (n : Nat) : List ZlA := (List.range n).map ZBU
def partsT (p : PlanV) (n : Nat) : List ZlA := (List.range n).map (ZBS p.all)
def partsI (p : PlanV) (l n : Nat) : List ZlA := (List.range n).map (ZBT (p.itemsAt + p.ahead l * 32) l)
def partsL (p : PlanV) (l : Nat) : List ZlA := (List.range l).flatMap fun j => p.partsI j (p.width j).toNat
def parts (p : PlanV) : List ZlA := if p.right = true then ZAQ p.all.toNat ++ p.partsT p.all.toNat ++ p.partsL p.levels else []
def codeOf (p : PlanV) (a n : Int) : Int := if p.right = true then (if n = 1 ∨ n = 2 ∨ n = 4 ∨ n = 8 then (if 0 <= a /\ a < p.tags then (if a % n = 0 then 0 else 9) else 2) else 1) else 4
def lnOf (p : PlanV) (a n : Int) : Int := if p.codeOf a n = 0 then a / 32 else 0
def offOf (p : PlanV) (a n : Int) : Int := if p.codeOf a n = 0 then a % 32 else 0
end PlanV
namespace PlanV
theorem levels_le (p : PlanV) : p.levels <= 5 := by unfold levels; exact ZoL p
end PlanV
end Go.Sx
