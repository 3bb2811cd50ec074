/- Two parts of the proof. -/
import Derived.Test.YtefmjmghkedciaaSxPlan
import Derived.Test.YtefmjmghkedciaaSxBit
import Derived.Test.YtefmjmghkedciaaSxNum
set_option linter.unusedVariables false
set_option linter.unusedSimpArgs false
namespace Go.Sx
/-- An operation as an argument: its kind, its place, its bytes, its number, and what is wanted. -/
def opArg (a : SVal) (k : Int → Int → Int → Int → Int → Prop) : Prop := match a with
  | .agg [.one (.int .i64 kind), .one (.int .i64 at_), .one (.int .i64 n), .one (.int .u64 value), .one (.int .u64 want)] => k kind at_ n value want
  | _ => False
theorem opArg_inv {a : SVal} {k : Int → Int → Int → Int → Int → Prop} (h : opArg a k) : ∃ kind at_ n value want, a = .agg [.one (.int .i64 kind), .one (.int .i64 at_), .one (.int .i64 n), .one (.int .u64 value), .one (.int .u64 want)] ∧ k kind at_ n value want := by
  unfold opArg at h
  split at h
  · exact ⟨_, _, _, _, _, rfl, h⟩
  · exact h.elim
/-- A line as an argument. -/
def lineArg (a : SVal) (k : List Int → Prop) : Prop := match a with
  | .agg [.ints .u8 n xs] => bif Nat.beq n 32 then k xs else False
  | _ => False
theorem lineArg_inv {a : SVal} {k : List Int → Prop} (h : lineArg a k) : ∃ xs, a = .agg [.ints .u8 32 xs] ∧ k xs := by
  unfold lineArg at h
  split at h
  · obtain ⟨hb, h⟩ := bif_prop h
    obtain rfl := beq_eq hb
    exact ⟨_, rfl, h⟩
  · exact h.elim
def sizeB (n : Int) : Bool := n == 1 || n == 2 || n == 4 || n == 8
def chgB (kind : Int) : Bool := decide (2 ≤ kind ∧ kind ≤ 4)
def maskI (n : Int) : Int := if n < 1 then 0 else if 8 ≤ n then 18446744073709551615 else 256 ^ n.toNat - 1
/-- Where an operation's bytes stand in their line. -/
def doAt (at_ n : Int) : Nat := (min (at_ % 32) (32 - n)).toNat
theorem doAt_le {at_ n : Int} (hn : sizeB n = true) : (doAt at_ n : Int) = min (at_ % 32) (32 - n) ∧ doAt at_ n + n.toNat ≤ 32 ∧ 1 ≤ n ∧ n ≤ 8 := by
  unfold sizeB at hn
  simp only [Bool.or_eq_true, beq_iff_eq] at hn
  have := Int.emod_nonneg at_ (show (32 : Int) ≠ 0 by omega)
  unfold doAt
  omega
theorem and_mask_int (a : Int) (n bits : Nat) (hn : n ≤ bits) : (BitVec.ofInt bits a &&& BitVec.ofInt bits ((2 ^ n - 1 : Nat) : Int)).toNat = (a % (2 ^ n : Nat)).toNat := by
  have hp : 0 < 2 ^ n := Nat.pow_pos (by omega)
  have hle : 2 ^ n ≤ 2 ^ bits := Nat.pow_le_pow_right (by omega) hn
  rw [BitVec.toNat_and, BitVec.toNat_ofInt, BitVec.toNat_ofInt]
  have h1 : (((2 ^ n - 1 : Nat) : Int) % ((2 ^ bits : Nat) : Int)).toNat = 2 ^ n - 1 := by
    rw [Int.emod_eq_of_lt (by omega) (by omega)]
    simp
  rw [h1, Nat.and_two_pow_sub_one_eq_mod]
  have hdvd : ((2 ^ n : Nat) : Int) ∣ ((2 ^ bits : Nat) : Int) := Int.natCast_dvd_natCast.2 (Nat.pow_dvd_pow 2 hn)
  have h2 : ((a % ((2 ^ bits : Nat) : Int)).toNat : Int) = a % ((2 ^ bits : Nat) : Int) := Int.toNat_of_nonneg (Int.emod_nonneg _ (by omega))
  have h3 : (((a % ((2 ^ bits : Nat) : Int)).toNat % 2 ^ n : Nat) : Int) = a % ((2 ^ n : Nat) : Int) := by
    rw [Int.natCast_emod, h2, Int.emod_emod_of_dvd a hdvd]
  omega
theorem iand_i64_31 (a : Int) : iand .i64 a 31 = a % 32 := by
  have := and_mask_int a 5 64 (by omega)
  have h7 : (31 : Int) = ((2 ^ 5 - 1 : Nat) : Int) := by decide
  have h0 := Int.emod_nonneg a (show (32 : Int) ≠ 0 by omega)
  have h1 := Int.emod_lt_of_pos a (show (0 : Int) < 32 by omega)
  rw [h7]
  unfold iand
  generalize ((2 ^ 5 - 1 : Nat) : Int) = z at *
  change IntKind.i64.wrap (((BitVec.ofInt 64 a &&& BitVec.ofInt 64 z).toNat : Nat) : Int) = _
  rw [this, show ((2 ^ 5 : Nat) : Int) = 32 from rfl, Int.toNat_of_nonneg h0, wrap_i64 (by omega) (by omega)]
end Go.Sx

namespace Go.Sx
structure OpV where
  okind : Int
  oat : Int
  on : Int
  oval : Int
  owant : Int
def OpV.cs (o : OpV) : List Chunk := [.one (.int .i64 o.okind), .one (.int .i64 o.oat), .one (.int .i64 o.on), .one (.int .u64 o.oval), .one (.int .u64 o.owant)]
def OpV.Wf (o : OpV) : Prop := I64 o.okind ∧ I64 o.oat ∧ I64 o.on ∧ (0 ≤ o.oval ∧ o.oval < 2 ^ 64) ∧ (0 ≤ o.owant ∧ o.owant < 2 ^ 64)
def LineOk (xs : List Int) : Prop := xs.length = 32 ∧ ∀ x ∈ xs, 0 ≤ x ∧ x < 256
namespace OpV
def good (o : OpV) : Bool := sizeB o.on && (chgB o.okind || o.okind == 1)
/-- The number that bytes are, at a place. -/
def numAt (o : OpV) (k : Nat) (xs : List Int) : Int := readB ((xs.drop k).take o.on.toNat)
/-- The number that is put, if one is. -/
def putAt (o : OpV) (k : Nat) (xs : List Int) : Option Int :=
  if o.okind = 1 then none else if o.okind = 3 then (if o.numAt k xs = o.owant % 256 ^ o.on.toNat then some o.oval else none) else if o.okind = 4 then some ((o.oval + o.numAt k xs) % 18446744073709551616) else some o.oval
def laid (o : OpV) (k : Nat) (xs : List Int) (v : Int) : List Int := xs.take k ++ numB v o.on.toNat ++ xs.drop (k + o.on.toNat)
def nextAt (o : OpV) (k : Nat) (xs : List Int) : List Int := match o.putAt k xs with
  | some v => o.laid k xs v
  | none => xs
/-- The bytes' place in their line. -/
def place (o : OpV) : Nat := doAt o.oat o.on
def next (o : OpV) (xs : List Int) : List Int := if o.good = true then o.nextAt o.place xs else xs
def result (o : OpV) (xs : List Int) : Int := if o.good = true then o.numAt o.place xs else 0
end OpV
end Go.Sx
