/- Part of the proof: SxAes7. -/
import Derived.Test.YtfffjdfegnmejaaSxAes5
set_option linter.unusedVariables false
set_option linter.unusedSimpArgs false
namespace Go.Sx
def xt (a : BitVec 8) : BitVec 8 := (a <<< 1) ^^^ (if a.getLsbD 7 then 27#8 else 0#8)
def ZnY : Nat -> BitVec 8 -> BitVec 8 -> BitVec 8
  | 0, _, _ => 0#8
  | k + 1, a, b => (if b.getLsbD 0 then a else 0#8) ^^^ ZnY k (xt a) (b >>> 1)
def mv (a b : BitVec 8) : BitVec 8 := ZnY 8 a b
theorem Zse : ∀ n, n < 256 -> bv (dbl (n : Nat)) = xt (bv (n : Nat)) := by decide +kernel
theorem Zzf : ∀ n, n < 256 -> bv (ZbF .u8 (n : Nat) 1) = bv (n : Nat) >>> 1 /\ (0 < ZaR .u8 (n : Nat) 1 ↔ (bv (n : Nat)).getLsbD 0 = true) := by decide +kernel
theorem Zjx : ∀ k a, ZnY k a 0#8 = 0#8
  | 0, _ => rfl
  | k + 1, a => by unfold ZnY; rw [show (0#8 >>> 1) = 0#8 by decide, Zjx k, show (0#8).getLsbD 0 = false by decide]; simp
theorem ZkI : ∀ k (a b o : Int), (0 <= a /\ a < 256) -> (0 <= b /\ b < 256) -> bv (ZgK k a b o) = bv o ^^^ ZnY k (bv a) (bv b)
  | 0, a, b, o, _, _ => by unfold ZgK ZnY; simp
  | k + 1, a, b, o, ha, hb => by
    obtain ⟨m, rfl⟩ := Int.eq_ofNat_of_zero_le ha.1
    obtain ⟨n, rfl⟩ := Int.eq_ofNat_of_zero_le hb.1
    have l := Zzf n (by omega)
    unfold ZgK
    by_cases h : 0 < (n : Int)
    · rw [if_pos h, ZkI k _ _ _ (ZiI _) (by rw [ZLu (by omega)]; omega), Zse m (by omega), l.1]
      conv => rhs; unfold ZnY
      rw [<- BitVec.xor_assoc]
      congr 1
      by_cases h2 : 0 < ZaR .u8 (n : Nat) 1
      · rw [if_pos h2, if_pos (l.2.1 h2), Zyc]
      · rw [if_neg h2, if_neg (fun e => h2 (l.2.2 e))]; simp
    · rw [if_neg h]
      have : n = 0 := by omega
      subst this
      rw [show bv ((0 : Nat) : Int) = 0#8 by decide, Zjx]; simp
theorem ZnZ {a b : Int} (ha : 0 <= a /\ a < 256) (hb : 0 <= b /\ b < 256) : bv (Zb1 a b) = mv (bv a) (bv b) := by
  unfold Zb1 mv
  rw [ZkI 8 a b 0 ha hb, show bv 0 = 0#8 by decide]; simp
theorem xac (a b c d : BitVec 8) : (a ^^^ b) ^^^ (c ^^^ d) = (a ^^^ c) ^^^ (b ^^^ d) := by
  rw [BitVec.xor_assoc, BitVec.xor_assoc, <- BitVec.xor_assoc b, BitVec.xor_comm b c, BitVec.xor_assoc]
theorem Zxr (c d : Bool) (t : BitVec 8) : (if (c ^^ d) = true then t else 0#8) = (if c = true then t else 0#8) ^^^ (if d = true then t else 0#8) := by
  cases c <;> cases d <;> simp
theorem ZzG (a b : BitVec 8) : xt (a ^^^ b) = xt a ^^^ xt b := by
  unfold xt
  rw [BitVec.shiftLeft_xor_distrib, BitVec.getLsbD_xor, Zxr, xac]
theorem ZnX : ∀ k (a a' b : BitVec 8), ZnY k (a ^^^ a') b = ZnY k a b ^^^ ZnY k a' b
  | 0, _, _, _ => by unfold ZnY; decide
  | k + 1, a, a', b => by
    unfold ZnY
    rw [ZzG, ZnX k, xac]
    congr 1
    cases b.getLsbD 0 <;> simp
theorem ZnW : ∀ k (a b b' : BitVec 8), ZnY k a (b ^^^ b') = ZnY k a b ^^^ ZnY k a b'
  | 0, _, _, _ => by unfold ZnY; decide
  | k + 1, a, b, b' => by
    unfold ZnY
    rw [BitVec.ushiftRight_xor_distrib, BitVec.getLsbD_xor, Zxr, ZnW k, xac]
theorem Zd2 (a a' b : BitVec 8) : mv (a ^^^ a') b = mv a b ^^^ mv a' b := ZnX 8 a a' b
theorem Ze1 (a b b' : BitVec 8) : mv a (b ^^^ b') = mv a b ^^^ mv a b' := ZnW 8 a b b'
def bs (x : BitVec 8) (i : Nat) : BitVec 8 := if x.getLsbD i = true then 1#8 <<< i else 0#8
theorem ZMY : ∀ n, n < 256 -> let x := BitVec.ofNat 8 n; x = bs x 0 ^^^ bs x 1 ^^^ bs x 2 ^^^ bs x 3 ^^^ bs x 4 ^^^ bs x 5 ^^^ bs x 6 ^^^ bs x 7 := by decide +kernel
theorem ZLF (x : BitVec 8) : x = bs x 0 ^^^ bs x 1 ^^^ bs x 2 ^^^ bs x 3 ^^^ bs x 4 ^^^ bs x 5 ^^^ bs x 6 ^^^ bs x 7 := by
  have := ZMY x.toNat x.isLt
  rw [BitVec.ofNat_toNat, BitVec.setWidth_eq] at this
  exact this
def Add {n : Nat} (f : BitVec 8 -> BitVec n) : Prop := ∀ x y, f (x ^^^ y) = f x ^^^ f y
theorem Add.zero {n : Nat} {f : BitVec 8 -> BitVec n} (hf : Add f) : f 0#8 = 0#n := by
  have := hf 0#8 0#8
  rw [show (0#8 ^^^ 0#8) = 0#8 by decide, BitVec.xor_self] at this
  exact this
theorem Ze3 {n : Nat} {f g : BitVec 8 -> BitVec n} (hf : Add f) (hg : Add g) (h : ∀ i, i < 8 -> f (1#8 <<< i) = g (1#8 <<< i)) (x : BitVec 8) : f x = g x := by
  have k : ∀ i, i < 8 -> f (bs x i) = g (bs x i) := fun i hi => by
    unfold bs
    split
    · exact h i hi
    · rw [hf.zero, hg.zero]
  rw [ZLF x]
  generalize hb : bs x = u at k
  rw [hf, hf, hf, hf, hf, hf, hf, hg, hg, hg, hg, hg, hg, hg, k 0 (by omega), k 1 (by omega), k 2 (by omega), k 3 (by omega), k 4 (by omega), k 5 (by omega), k 6 (by omega), k 7 (by omega)]
theorem Zx8 : ∀ i, i < 8 -> ∀ j, j < 8 -> mv (1#8 <<< i) (1#8 <<< j) = mv (1#8 <<< j) (1#8 <<< i) := by decide +kernel
theorem ZoT (a b : BitVec 8) : mv a b = mv b a := by
  apply Ze3 (f := fun a => mv a b) (g := fun a => mv b a) (fun x y => Zd2 x y b) (fun x y => Ze1 b x y) fun i hi => ?_
  exact Ze3 (f := fun b => mv (1#8 <<< i) b) (g := fun b => mv b (1#8 <<< i)) (fun x y => Ze1 _ x y) (fun x y => Zd2 x y _) (fun j hj => Zx8 i hi j hj) b
theorem Ztq : ∀ i, i < 8 -> ∀ j, j < 8 -> ∀ k, k < 8 -> mv (1#8 <<< i) (mv (1#8 <<< j) (1#8 <<< k)) = mv (mv (1#8 <<< i) (1#8 <<< j)) (1#8 <<< k) := by decide +kernel
theorem Zzb (a b c : BitVec 8) : mv a (mv b c) = mv (mv a b) c := by
  apply Ze3 (f := fun a => mv a (mv b c)) (g := fun a => mv (mv a b) c) (fun x y => Zd2 x y _) (fun x y => by show mv (mv (x ^^^ y) b) c = _; rw [Zd2, Zd2]) fun i hi => ?_
  apply Ze3 (f := fun b => mv (1#8 <<< i) (mv b c)) (g := fun b => mv (mv (1#8 <<< i) b) c) (fun x y => by show mv _ (mv (x ^^^ y) c) = _; rw [Zd2, Ze1]) (fun x y => by show mv (mv _ (x ^^^ y)) c = _; rw [Ze1, Zd2]) fun j hj => ?_
  exact Ze3 (f := fun c => mv (1#8 <<< i) (mv (1#8 <<< j) c)) (g := fun c => mv (mv (1#8 <<< i) (1#8 <<< j)) c) (fun x y => by show mv _ (mv _ (x ^^^ y)) = _; rw [Ze1, Ze1]) (fun x y => Ze1 _ x y) (fun k hk => Ztq i hi j hj k hk) c
theorem Zy5 : ∀ i, i < 8 -> mv (1#8 <<< i) 1#8 = 1#8 <<< i := by decide +kernel
theorem ZzV (a : BitVec 8) : mv a 1#8 = a := Ze3 (f := fun a => mv a 1#8) (g := fun a => a) (fun x y => Zd2 x y _) (fun _ _ => rfl) Zy5 a
def invT : List Nat := [0, 1, 141, 246, 203, 82, 123, 209, 232, 79, 41, 192, 176, 225, 229, 199, 116, 180, 170, 75, 153, 43, 96, 95, 88, 63, 253, 204, 255, 64, 238, 178, 58, 110, 90, 241, 85, 77, 168, 201, 193, 10, 152, 21, 48, 68, 162, 194, 44, 69, 146, 108, 243, 57, 102, 66, 242, 53, 32, 111, 119, 187, 89, 25, 29, 254, 55, 103, 45, 49, 245, 105, 167, 100, 171, 19, 84, 37, 233, 9, 237, 92, 5, 202, 76, 36, 135, 191, 24, 62, 34, 240, 81, 236, 97, 23, 22, 94, 175, 211, 73, 166, 54, 67, 244, 71, 145, 223, 51, 147, 33, 59, 121, 183, 151, 133, 16, 181, 186, 60, 182, 112, 208, 6, 161, 250, 129, 130, 131, 126, 127, 128, 150, 115, 190, 86, 155, 158, 149, 217, 247, 2, 185, 164, 222, 106, 50, 109, 216, 138, 132, 114, 42, 20, 159, 136, 249, 220, 137, 154, 251, 124, 46, 195, 143, 184, 101, 72, 38, 200, 18, 74, 206, 231, 210, 98, 12, 224, 31, 239, 17, 117, 120, 113, 165, 142, 118, 61, 189, 188, 134, 87, 11, 40, 47, 163, 218, 212, 228, 15, 169, 39, 83, 4, 27, 252, 172, 230, 122, 7, 174, 99, 197, 219, 226, 234, 148, 139, 196, 213, 157, 248, 144, 107, 177, 13, 214, 235, 198, 14, 207, 173, 8, 78, 215, 227, 93, 80, 30, 179, 91, 35, 56, 52, 104, 70, 3, 140, 221, 156, 125, 160, 205, 26, 65, 28]
def ZEX (x : BitVec 8) : BitVec 8 := BitVec.ofNat 8 (invT.getD x.toNat 0)
theorem Zzj : ∀ n, n < 256 -> n ≠ 0 -> mv (BitVec.ofNat 8 n) (ZEX (BitVec.ofNat 8 n)) = 1#8 := by decide +kernel
theorem ZzW {x : BitVec 8} (h : x ≠ 0#8) : mv x (ZEX x) = 1#8 := by
  have := Zzj x.toNat x.isLt (fun e => h (BitVec.eq_of_toNat_eq e))
  rw [BitVec.ofNat_toNat, BitVec.setWidth_eq] at this
  exact this
theorem ZLn (x y : BitVec 8) : mv x y = 1#8 ↔ x ≠ 0#8 /\ y = ZEX x := by
  constructor
  · intro h
    have hx : x ≠ 0#8 := fun e => by rw [e, ZoT, show mv y 0#8 = 0#8 from Zjx 8 y] at h; exact absurd h (by decide)
    refine ⟨hx, ?_⟩
    rw [<- ZzV y, <- ZzW hx, Zzb, ZoT y x, h, ZoT, ZzV]
  · rintro ⟨h, rfl⟩
    exact ZzW h
end Go.Sx
