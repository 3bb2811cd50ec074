/- Part of the proof: SxAes8. -/
import Derived.Test.YtfffjdfegnmejaaSxAes7
set_option linter.unusedVariables false
set_option linter.unusedSimpArgs false
namespace Go.Sx
def ZAG (a : BitVec 8) (i : Nat) : BitVec 16 := a.setWidth 16 <<< i
def qV : Nat -> BitVec 8 -> BitVec 8 -> BitVec 16
  | 0, _, _ => 0#16
  | i + 1, a, b => qV i a b ^^^ (if b.getLsbD i = true then ZAG a i else 0#16)
def rV : Nat -> BitVec 16 -> BitVec 16
  | 0, x => x
  | n + 1, x => rV n x ^^^ (if (rV n x).getLsbD (14 - n) = true then 283#16 <<< (14 - n - 8) else 0#16)
theorem ZCl (i : Nat) (a b : BitVec 8) : qV (i + 1) a b = qV i a b ^^^ (if b.getLsbD i = true then ZAG a i else 0#16) := rfl
theorem ZCh (n : Nat) (x : BitVec 16) : rV (n + 1) x = rV n x ^^^ (if (rV n x).getLsbD (14 - n) = true then 283#16 <<< (14 - n - 8) else 0#16) := rfl
theorem ZLU {n : Nat} (a b c d : BitVec n) : (a ^^^ b) ^^^ (c ^^^ d) = (a ^^^ c) ^^^ (b ^^^ d) := by
  rw [BitVec.xor_assoc, BitVec.xor_assoc, <- BitVec.xor_assoc b, BitVec.xor_comm b c, BitVec.xor_assoc]
theorem Zr5 {n : Nat} (c d : Bool) (t : BitVec n) : (if (c ^^ d) = true then t else 0#n) = (if c = true then t else 0#n) ^^^ (if d = true then t else 0#n) := by
  cases c <;> cases d <;> simp
theorem ZyW (a a' : BitVec 8) (i : Nat) : ZAG (a ^^^ a') i = ZAG a i ^^^ ZAG a' i := by
  unfold ZAG; rw [BitVec.setWidth_xor, BitVec.shiftLeft_xor_distrib]
theorem ZuT : ∀ k (a a' b : BitVec 8), qV k (a ^^^ a') b = qV k a b ^^^ qV k a' b
  | 0, _, _, _ => by unfold qV; decide
  | k + 1, a, a', b => by
    unfold qV
    rw [ZuT k, ZyW, ZLU]
    congr 1
    cases b.getLsbD k <;> simp
theorem ZuS : ∀ k (a b b' : BitVec 8), qV k a (b ^^^ b') = qV k a b ^^^ qV k a b'
  | 0, _, _, _ => by unfold qV; decide
  | k + 1, a, b, b' => by
    unfold qV
    rw [ZuS k, BitVec.getLsbD_xor, Zr5, ZLU]
theorem ZuQ : ∀ k (x y : BitVec 16), rV k (x ^^^ y) = rV k x ^^^ rV k y
  | 0, _, _ => rfl
  | k + 1, x, y => by
    unfold rV
    rw [ZuQ k, BitVec.getLsbD_xor, Zr5, ZLU]
def qv (a b : BitVec 8) : BitVec 8 := (rV 7 (qV 8 a b)).setWidth 8
theorem ZCk (a a' b : BitVec 8) : qv (a ^^^ a') b = qv a b ^^^ qv a' b := by unfold qv; rw [ZuT, ZuQ, BitVec.setWidth_xor]
theorem ZCj (a b b' : BitVec 8) : qv a (b ^^^ b') = qv a b ^^^ qv a b' := by unfold qv; rw [ZuS, ZuQ, BitVec.setWidth_xor]
theorem ZCi : ∀ i, i < 8 -> ∀ j, j < 8 -> qv (1#8 <<< i) (1#8 <<< j) = mv (1#8 <<< i) (1#8 <<< j) := by decide +kernel
theorem ZMp (a b : BitVec 8) : qv a b = mv a b := by
  apply Ze3 (f := fun a => qv a b) (g := fun a => mv a b) (fun x y => ZCk x y b) (fun x y => Zd2 x y b) fun i hi => ?_
  exact Ze3 (f := fun b => qv (1#8 <<< i) b) (g := fun b => mv (1#8 <<< i) b) (fun x y => ZCj _ x y) (fun x y => Ze1 _ x y) (fun j hj => ZCi i hi j hj) b
theorem ZLT {m n : Nat} (hm : m < 2 ^ 62) (hn : n < 2 ^ 62) : Zar .i64 (m : Nat) (n : Nat) = ((m ^^^ n : Nat) : Int) := by
  unfold Zar
  show IntKind.i64.wrap (((BitVec.ofInt 64 (m : Int) ^^^ BitVec.ofInt 64 (n : Int)).toNat : Nat) : Int) = _
  rw [BitVec.ofInt_natCast, BitVec.ofInt_natCast, BitVec.toNat_xor, BitVec.toNat_ofNat, BitVec.toNat_ofNat, Nat.mod_eq_of_lt (by omega), Nat.mod_eq_of_lt (by omega), IntKind.wrap_i64]
  have := Nat.xor_lt_two_pow hm hn
  omega
theorem ZFi (X Y : BitVec 16) : Zar .i64 (X.toNat : Nat) (Y.toNat : Nat) = ((X ^^^ Y).toNat : Nat) := by
  have := X.isLt
  have := Y.isLt
  rw [ZLT (by omega) (by omega), BitVec.toNat_xor]
theorem ZrU : ∀ n, n < 256 -> ∀ i, i < 8 -> Zgv .i64 (IntKind.i64.wrap (n : Nat)) (i : Nat) = ((ZAG (bv (n : Nat)) i).toNat : Nat) /\ (ZaR .u8 (ZbF .u8 (n : Nat) (i : Nat)) 1 == 1) = (bv (n : Nat)).getLsbD i := by decide +kernel
theorem ZyU : ∀ n, n < 7 -> Zgv .i64 283 (IntKind.i64.wrap ((14 - n : Nat) - 8 : Int)) = ((283#16 <<< (14 - n - 8)).toNat : Nat) := by decide +kernel
theorem ZM0 (n : Nat) (hn : n < 2 ^ 62) : ZaR .i64 (n : Nat) 1 = ((n % 2 : Nat) : Int) := by
  unfold ZaR
  show IntKind.i64.wrap (((BitVec.ofInt 64 (n : Int) &&& BitVec.ofInt 64 ((1 : Nat) : Int)).toNat : Nat) : Int) = _
  rw [BitVec.ofInt_natCast, BitVec.ofInt_natCast, BitVec.toNat_and, BitVec.toNat_ofNat, BitVec.toNat_ofNat, Nat.mod_eq_of_lt (by omega), Nat.mod_eq_of_lt (by omega), Nat.and_one_is_mod, IntKind.wrap_i64]
  omega
theorem ZMZ (X : BitVec 16) (i : Nat) (hi : i < 64) : (ZaR .i64 (ZbF .i64 (X.toNat : Nat) (i : Nat)) 1 == 1) = X.getLsbD i := by
  have := X.isLt
  have hd : X.toNat / 2 ^ i <= X.toNat := Nat.div_le_self _ _
  have e : ZbF .i64 (X.toNat : Nat) (i : Nat) = ((X.toNat / 2 ^ i : Nat) : Int) := by
    rw [Zxs _ _ _ (by show (i : Int).toNat <= 64; omega)]
    push_cast
    rfl
  rw [e, ZM0 _ (by omega)]
  show _ = X.toNat.testBit i
  rw [Nat.testBit_eq_decide_div_mod_eq, Bool.eq_iff_iff, beq_iff_eq, decide_eq_true_iff]
  omega
theorem ZOZ (X : BitVec 16) : bv (IntKind.u8.wrap (X.toNat : Nat)) = X.setWidth 8 := by
  unfold bv
  apply BitVec.eq_of_toNat_eq
  rw [wrap_u8, BitVec.toNat_ofInt, BitVec.toNat_setWidth]
  omega
theorem Zy1 {a b v5 v6 : Int} (ha : 0 <= a /\ a < 256) (hb : 0 <= b /\ b < 256) (h : 0 <= v6 /\ v6 < 8) (e : v5 = ((qV v6.toNat (bv a) (bv b)).toNat : Nat)) :
    ((ZaR .u8 (ZbF .u8 b v6) 1 == 1) = true -> Zar .i64 v5 (Zgv .i64 (IntKind.i64.wrap a) v6) = ((qV (v6 + 1).toNat (bv a) (bv b)).toNat : Nat)) /\
    ((ZaR .u8 (ZbF .u8 b v6) 1 == 1) = false -> v5 = ((qV (v6 + 1).toNat (bv a) (bv b)).toNat : Nat)) := by
  obtain ⟨m, rfl⟩ := Int.eq_ofNat_of_zero_le ha.1
  obtain ⟨n, rfl⟩ := Int.eq_ofNat_of_zero_le hb.1
  obtain ⟨i, rfl⟩ := Int.eq_ofNat_of_zero_le h.1
  rw [show ((i : Int)).toNat = i by omega] at e
  rw [show ((i : Int) + 1).toNat = i + 1 by omega, (ZrU n (by omega) i (by omega)).2, (ZrU m (by omega) i (by omega)).1, e, ZCl]
  constructor <;> intro h1
  · rw [if_pos h1]; exact ZFi _ _
  · rw [if_neg (by rw [h1]; decide)]; simp
theorem Zy0 {v5 v7 : Int} {X : BitVec 16} (h : 8 <= v7 /\ v7 <= 14) (e : v5 = ((rV (14 - v7).toNat X).toNat : Nat)) :
    ((ZaR .i64 (ZbF .i64 v5 v7) 1 == 1) = true -> Zar .i64 v5 (Zgv .i64 283 (IntKind.i64.wrap (v7 - 8))) = ((rV (14 - (v7 - 1)).toNat X).toNat : Nat)) /\
    ((ZaR .i64 (ZbF .i64 v5 v7) 1 == 1) = false -> v5 = ((rV (14 - (v7 - 1)).toNat X).toNat : Nat)) := by
  obtain ⟨n, hn, rfl⟩ : ∃ n : Nat, n < 7 /\ v7 = ((14 - n : Nat) : Int) := ⟨(14 - v7).toNat, by omega, by omega⟩
  have s := ZyU n hn
  rw [show (14 - ((14 - n : Nat) : Int)).toNat = n by omega] at e
  rw [show (14 - (((14 - n : Nat) : Int) - 1)).toNat = n + 1 by omega, e, ZMZ _ _ (by omega), s, ZCh]
  constructor <;> intro h1
  · rw [if_pos h1]; exact ZFi _ _
  · rw [if_neg (by rw [h1]; decide)]; simp
theorem ZHX {a b v5 : Int} (ha : 0 <= a /\ a < 256) (hb : 0 <= b /\ b < 256) (e : v5 = ((rV 7 (qV 8 (bv a) (bv b))).toNat : Nat)) : IntKind.u8.wrap v5 = Zb1 a b := by
  apply Zot (by rw [wrap_u8]; omega) (Ze2 a b)
  rw [e, ZOZ, ZnZ ha hb, <- ZMp]
  rfl
end Go.Sx
