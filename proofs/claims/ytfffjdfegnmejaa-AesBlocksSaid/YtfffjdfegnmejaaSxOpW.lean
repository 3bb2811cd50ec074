/- Two parts of the proof. -/
import Derived.Test.YtfffjdfegnmejaaSxHelp
import Derived.Test.YtfffjdfegnmejaaSxPlan
import Derived.Test.YtfffjdfegnmejaaSxBit
set_option linter.unusedVariables false
set_option linter.unusedSimpArgs false
namespace Go.Sx
def ZOb (v : Int) : Nat -> List Int
  | 0 => []
  | k + 1 => ZOb v k ++ [(v / 256 ^ k) % 256]
end Go.Sx

namespace Go.Sx
def ZL5 (n : Int) : Bool := n == 1 || n == 2 || n == 4 || n == 8
def ZOY (kind : Int) : Bool := decide (2 <= kind /\ kind <= 4)
def ZOW (at_ n : Int) : Nat := (min (at_ % 32) (32 - n)).toNat
end Go.Sx

namespace Go.Sx
structure OpV where
  okind : Int
  oat : Int
  on : Int
  oval : Int
  owant : Int
def OpV.cs (o : OpV) : List Chunk := [.one (.int .i64 o.okind), .one (.int .i64 o.oat), .one (.int .i64 o.on), .one (.int .u64 o.oval), .one (.int .u64 o.owant)]
namespace OpV
def good (o : OpV) : Bool := ZL5 o.on && (ZOY o.okind || o.okind == 1)
def numAt (o : OpV) (k : Nat) (xs : List Int) : Int := ZHW ((xs.drop k).take o.on.toNat)
def putAt (o : OpV) (k : Nat) (xs : List Int) : Option Int :=
  if o.okind = 1 then none else if o.okind = 3 then (if o.numAt k xs = o.owant % 256 ^ o.on.toNat then some o.oval else none) else if o.okind = 4 then some ((o.oval + o.numAt k xs) % 18446744073709551616) else some o.oval
def laid (o : OpV) (k : Nat) (xs : List Int) (v : Int) : List Int := xs.take k ++ ZOb v o.on.toNat ++ xs.drop (k + o.on.toNat)
def nextAt (o : OpV) (k : Nat) (xs : List Int) : List Int := match o.putAt k xs with
  | some v => o.laid k xs v
  | none => xs
def place (o : OpV) : Nat := ZOW o.oat o.on
def next (o : OpV) (xs : List Int) : List Int := if o.good = true then o.nextAt o.place xs else xs
end OpV
end Go.Sx
