/- What a core's operation does with a line's bytes, in plain Lean. -/
import Derived.Test.YtggpebgigddogaaSxOpV
import Derived.Test.YtggpebgigddogaaSxNum
namespace Go.Sx
structure OpV where
  okind : Int
  oat : Int
  on : Int
  oval : Int
  owant : Int
def OpV.cs (o : OpV) : List Chunk := [.one (.int .i64 o.okind), .one (.int .i64 o.oat), .one (.int .i64 o.on), .one (.int .u64 o.oval), .one (.int .u64 o.owant)]
def OpV.Wf (o : OpV) : Prop := I64 o.okind ∧ I64 o.oat ∧ I64 o.on ∧ (0 ≤ o.oval ∧ o.oval < 2 ^ 64) ∧ (0 ≤ o.owant ∧ o.owant < 2 ^ 64)
def LineOk (xs : List Int) : Prop := xs.length = 32 ∧ ∀ x ∈ xs, 0 ≤ x ∧ x < 256
namespace OpV
def good (o : OpV) : Bool := sizeB o.on && (chgB o.okind || o.okind == 1)
/-- The number that bytes are, at a place. -/
def numAt (o : OpV) (k : Nat) (xs : List Int) : Int := readB ((xs.drop k).take o.on.toNat)
/-- The number that is put, if one is. -/
def putAt (o : OpV) (k : Nat) (xs : List Int) : Option Int :=
  if o.okind = 1 then none else if o.okind = 3 then (if o.numAt k xs = o.owant % 256 ^ o.on.toNat then some o.oval else none) else if o.okind = 4 then some ((o.oval + o.numAt k xs) % 18446744073709551616) else some o.oval
def laid (o : OpV) (k : Nat) (xs : List Int) (v : Int) : List Int := xs.take k ++ numB v o.on.toNat ++ xs.drop (k + o.on.toNat)
def nextAt (o : OpV) (k : Nat) (xs : List Int) : List Int := match o.putAt k xs with
  | some v => o.laid k xs v
  | none => xs
/-- The bytes' place in their line. -/
def place (o : OpV) : Nat := doAt o.oat o.on
def next (o : OpV) (xs : List Int) : List Int := if o.good = true then o.nextAt o.place xs else xs
def result (o : OpV) (xs : List Int) : Int := if o.good = true then o.numAt o.place xs else 0
end OpV
end Go.Sx
