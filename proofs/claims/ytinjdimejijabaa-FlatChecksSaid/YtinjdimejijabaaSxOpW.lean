/- Two parts of the proof. -/
import Derived.Test.YtinjdimejijabaaSxPlan
import Derived.Test.YtinjdimejijabaaSxBit
import Derived.Test.YtinjdimejijabaaSxNum
set_option linter.unusedVariables false
set_option linter.unusedSimpArgs false
namespace Go.Sx
def sizeB (n : Int) : Bool := n == 1 || n == 2 || n == 4 || n == 8
def chgB (kind : Int) : Bool := decide (2 <= kind /\ kind <= 4)
def Zgf (n : Int) : Int := if n < 1 then 0 else if 8 <= n then 18446744073709551615 else 256 ^ n.toNat - 1
def ZHb (at_ n : Int) : Nat := (min (at_ % 32) (32 - n)).toNat
theorem ZqS {at_ n : Int} (hn : sizeB n = true) : (ZHb at_ n : Int) = min (at_ % 32) (32 - n) /\ ZHb at_ n + n.toNat <= 32 /\ 1 <= n /\ n <= 8 := by
  unfold sizeB at hn
  simp only [Bool.or_eq_true, beq_iff_eq] at hn
  have := Int.emod_nonneg at_ (show (32 : Int) ≠ 0 by omega)
  unfold ZHb
  omega
theorem Zp4 (a : Int) (n bits : Nat) (hn : n <= bits) : (BitVec.ofInt bits a &&& BitVec.ofInt bits ((2 ^ n - 1 : Nat) : Int)).toNat = (a % (2 ^ n : Nat)).toNat := by
  have hp : 0 < 2 ^ n := Nat.pow_pos (by omega)
  have hle : 2 ^ n <= 2 ^ bits := Nat.pow_le_pow_right (by omega) hn
  rw [BitVec.toNat_and, BitVec.toNat_ofInt, BitVec.toNat_ofInt]
  have h1 : (((2 ^ n - 1 : Nat) : Int) % ((2 ^ bits : Nat) : Int)).toNat = 2 ^ n - 1 := by
    rw [Int.emod_eq_of_lt (by omega) (by omega)]
    simp
  rw [h1, Nat.and_two_pow_sub_one_eq_mod]
  have hdvd : ((2 ^ n : Nat) : Int) ∣ ((2 ^ bits : Nat) : Int) := Int.natCast_dvd_natCast.2 (Nat.pow_dvd_pow 2 hn)
  have h2 : ((a % ((2 ^ bits : Nat) : Int)).toNat : Int) = a % ((2 ^ bits : Nat) : Int) := Int.toNat_of_nonneg (Int.emod_nonneg _ (by omega))
  have h3 : (((a % ((2 ^ bits : Nat) : Int)).toNat % 2 ^ n : Nat) : Int) = a % ((2 ^ n : Nat) : Int) := by
    rw [Int.natCast_emod, h2, Int.emod_emod_of_dvd a hdvd]
  omega
theorem ZqL (a : Int) : Zma .i64 a 31 = a % 32 := by
  have := Zp4 a 5 64 (by omega)
  have h7 : (31 : Int) = ((2 ^ 5 - 1 : Nat) : Int) := by decide
  have h0 := Int.emod_nonneg a (show (32 : Int) ≠ 0 by omega)
  have h1 := Int.emod_lt_of_pos a (show (0 : Int) < 32 by omega)
  rw [h7]
  unfold Zma
  generalize ((2 ^ 5 - 1 : Nat) : Int) = z at *
  change IntKind.i64.wrap (((BitVec.ofInt 64 a &&& BitVec.ofInt 64 z).toNat : Nat) : Int) = _
  rw [this, show ((2 ^ 5 : Nat) : Int) = 32 from rfl, Int.toNat_of_nonneg h0, wrap_i64 (by omega) (by omega)]
end Go.Sx

namespace Go.Sx
structure OpV where
  okind : Int
  oat : Int
  on : Int
  oval : Int
  owant : Int
def OpV.cs (o : OpV) : List Chunk := [.one (.int .i64 o.okind), .one (.int .i64 o.oat), .one (.int .i64 o.on), .one (.int .u64 o.oval), .one (.int .u64 o.owant)]
def OpV.Wf (o : OpV) : Prop := I64 o.okind /\ I64 o.oat /\ I64 o.on /\ (0 <= o.oval /\ o.oval < 2 ^ 64) /\ (0 <= o.owant /\ o.owant < 2 ^ 64)
def Zi4 (xs : List Int) : Prop := xs.length = 32 /\ ∀ x ∈ xs, 0 <= x /\ x < 256
namespace OpV
def good (o : OpV) : Bool := sizeB o.on && (chgB o.okind || o.okind == 1)
def numAt (o : OpV) (k : Nat) (xs : List Int) : Int := Zcz ((xs.drop k).take o.on.toNat)
def putAt (o : OpV) (k : Nat) (xs : List Int) : Option Int :=
  if o.okind = 1 then none else if o.okind = 3 then (if o.numAt k xs = o.owant % 256 ^ o.on.toNat then some o.oval else none) else if o.okind = 4 then some ((o.oval + o.numAt k xs) % 18446744073709551616) else some o.oval
def laid (o : OpV) (k : Nat) (xs : List Int) (v : Int) : List Int := xs.take k ++ ZdN v o.on.toNat ++ xs.drop (k + o.on.toNat)
def nextAt (o : OpV) (k : Nat) (xs : List Int) : List Int := match o.putAt k xs with
  | some v => o.laid k xs v
  | none => xs
def place (o : OpV) : Nat := ZHb o.oat o.on
def next (o : OpV) (xs : List Int) : List Int := if o.good = true then o.nextAt o.place xs else xs
def result (o : OpV) (xs : List Int) : Int := if o.good = true then o.numAt o.place xs else 0
end OpV
end Go.Sx
