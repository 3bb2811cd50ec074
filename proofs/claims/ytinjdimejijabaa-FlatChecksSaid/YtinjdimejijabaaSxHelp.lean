/- Part of the proof: SxHelp. -/
import Derived.Test.YtinjdimejijabaaSxCall
set_option linter.unusedVariables false
set_option linter.unusedSimpArgs false
namespace Go.Sx
def Zed : List (Nat × Nat) -> Nat -> Nat
  | [], i => i
  | (k, j) :: r, i => bif Nat.beq k i then j else Zed r i
def tau (l : List (Nat × Nat)) (i : Nat) : Part := ZbF (Zed l i)
def ZlU (n : Nat) : List (Nat × Nat) -> Bool
  | [] => true
  | (k, _) :: r => Nat.ble n k && ZlU n r
theorem ZkK {n : Nat} : ∀ {l : List (Nat × Nat)}, ZlU n l = true -> ∀ i, i < n -> tau l i = ZbF i
  | [], _, i, _ => rfl
  | (k, j) :: r, h, i, hi => by
    simp only [ZlU, Bool.and_eq_true] at h
    have h1 := Nat.le_of_ble_eq_true h.1
    have h2 := ZkK h.2 i hi
    have hb : Nat.beq k i = false := by
      cases hb : Nat.beq k i
      · rfl
      · have := Nat.eq_of_beq_eq_true hb; omega
    simp only [tau, Zed, hb, cond_false]
    exact h2
theorem Zcs {n0 : Nat} {K : SVal -> Heap -> Prop} {r r' : SVal} {H H' : Heap} (l : List (Nat × Nat)) (h1 : ZlU n0 l = true) (h7 : K r' H') (h2 : n0 <= H'.next) (h3 : r = r'.ren (tau l)) (h4 : r'.bd H'.next)
    (h5 : ZaV (tau l) H'.next H H'.ents) (h6 : Zbl (tau l) H'.ents) : Ret n0 K r H := .inl ⟨tau l, r', H', ZkK h1, h2, h3, h4, h5, h6, h7⟩
theorem ZwZ {n0 : Nat} {K : SVal -> Heap -> Prop} {r' : SVal} {H H' : Heap} (l : List (Nat × Nat)) (z : List Chunk) (hz : ZaS z = true) (h0 : Zaw z = 0) (h1 : ZlU n0 l = true) (h7 : K r' H') (h2 : n0 <= H'.next) (h3 : Zca z H = r'.ren (tau l)) (h4 : r'.bd H'.next)
    (h5 : ZaV (tau l) H'.next (Zb4 z H) H'.ents) (h6 : Zbl (tau l) H'.ents) : Ret n0 K .nilslice H := .inr (.inl ⟨z, hz, h0, .inl ⟨rfl, tau l, r', H', ZkK h1, h2, h3, h4, h5, h6, h7⟩⟩)
theorem ZcL {n0 : Nat} {e e' : Env} {H H' : Heap} (l : List (Nat × Nat)) (h1 : ZlU n0 l = true) (h2 : n0 <= H'.next) (h3 : Zbk (tau l) H'.next e e') (h5 : ZaV (tau l) H'.next H H'.ents) (h6 : Zbl (tau l) H'.ents) :
    Sub n0 (tau l) e H e' H' := ⟨ZkK h1, h2, h3, h5, h6⟩
theorem ZxO (k : IntKind) (a b : Int) (h : b.toNat <= k.bits) : ZG9 k a b = a / 2 ^ b.toNat := by
  unfold ZG9
  rw [Nat.min_eq_left h, Int.fdiv_eq_ediv_of_nonneg _ (Int.pow_nonneg (by omega))]
theorem wrap_u8 (n : Int) : IntKind.u8.wrap n = n % 256 := by rw [IntKind.wrap_u8]
theorem ZdH (n : Int) : IntKind.u64.wrap n = n % 18446744073709551616 := by
  simp [IntKind.wrap, IntKind.bits, IntKind.signed]
theorem wrap_i64 {n : Int} (h : -9223372036854775808 <= n) (h' : n <= 9223372036854775807) : IntKind.i64.wrap n = n := by rw [IntKind.wrap_i64]; omega
theorem ZkY {b : Int} (a : Nat) (hb : b = a) (ha : 0 < a) {m n : Nat} (h : m <= n) : b ^ m <= b ^ n := by
  subst hb
  rw [<- Int.natCast_pow, <- Int.natCast_pow]
  exact Int.ofNat_le.2 (Nat.pow_le_pow_right ha h)
theorem ZAp {a b c : Int} {n : Nat} (h0 : 0 <= a) (h1 : a < 2 ^ n) (hc : 0 <= c) (hb : b = c * 2 ^ n) (hs : a + b < 18446744073709551616) : ior .u64 a b = a + b := by
  obtain ⟨x, rfl⟩ := Int.eq_ofNat_of_zero_le h0
  obtain ⟨y, rfl⟩ := Int.eq_ofNat_of_zero_le hc
  have h1' : x < 2 ^ n := by have : ((x : Nat) : Int) < ((2 ^ n : Nat) : Int) := by rw [Int.natCast_pow]; exact h1
                             omega
  have hb' : b = ((y * 2 ^ n : Nat) : Int) := by rw [hb, Int.natCast_mul, Int.natCast_pow]; rfl
  subst hb'
  have hs' : x + y * 2 ^ n < 18446744073709551616 := by omega
  have hor : (BitVec.ofInt 64 (x : Int) ||| BitVec.ofInt 64 ((y * 2 ^ n : Nat) : Int)).toNat = x + y * 2 ^ n := by
    rw [BitVec.toNat_or, BitVec.ofInt_natCast, BitVec.ofInt_natCast, BitVec.toNat_ofNat, BitVec.toNat_ofNat, Nat.mod_eq_of_lt (by omega), Nat.mod_eq_of_lt (by omega), Nat.or_comm, Nat.mul_comm y,
      <- Nat.two_pow_add_eq_or_of_lt h1' y]
    omega
  unfold ior
  change IntKind.u64.wrap (((BitVec.ofInt 64 (x : Int) ||| BitVec.ofInt 64 ((y * 2 ^ n : Nat) : Int)).toNat : Nat) : Int) = _
  rw [hor, ZdH, Int.natCast_add, Int.emod_eq_of_lt (by omega) (by omega)]
theorem Zt0 {a b : Int} (h : b.toNat <= 64) : ZAn .u64 a b = (a * 2 ^ b.toNat) % 18446744073709551616 := by
  have hk : IntKind.u64.bits = 64 := rfl
  unfold ZAn
  rw [hk, Nat.min_eq_left h, ZdH]
def Byt (xs : List Int) : Prop := ∀ x ∈ xs, 0 <= x /\ x < 256
def Zcz : List Int -> Int
  | [] => 0
  | x :: r => x + 256 * Zcz r
theorem Zka : ∀ {xs : List Int}, Byt xs -> 0 <= Zcz xs /\ Zcz xs < 256 ^ xs.length
  | [], _ => by simp [Zcz]
  | x :: r, h => by
    have h1 := h x (by simp)
    have h2 := Zka (xs := r) (fun y hy => h y (by simp [hy]))
    simp only [Zcz, List.length_cons, Int.pow_succ]
    omega
theorem Zje : ∀ (xs : List Int) (y : Int), Zcz (xs ++ [y]) = Zcz xs + y * 256 ^ xs.length
  | [], y => by simp [Zcz]
  | x :: r, y => by
    simp only [List.cons_append, Zcz, Zje r y, List.length_cons, Int.pow_succ, Int.mul_add]
    have : 256 * (y * 256 ^ r.length) = y * (256 ^ r.length * 256) := by
      rw [Int.mul_comm 256, Int.mul_assoc]
    omega
theorem Byt.take {xs : List Int} (h : Byt xs) (n : Nat) : Byt (xs.take n) := fun x hx => h x (List.mem_of_mem_take hx)
theorem Byt.drop {xs : List Int} (h : Byt xs) (n : Nat) : Byt (xs.drop n) := fun x hx => h x (List.mem_of_mem_drop hx)
theorem ZfC {xs : List Int} {i : Nat} (h : i < xs.length) : xs.take (i + 1) = xs.take i ++ [xs.getD i 0] := by
  rw [List.take_add_one, List.getElem?_eq_getElem h, List.getD_eq_getElem?_getD, List.getElem?_eq_getElem h]; rfl
theorem Byt.getD {xs : List Int} (h : Byt xs) (i : Nat) : 0 <= xs.getD i 0 /\ xs.getD i 0 < 256 := by
  rw [List.getD_eq_getElem?_getD]
  rcases Nat.lt_or_ge i xs.length with hi | hi
  · rw [List.getElem?_eq_getElem hi]; exact h _ (List.getElem_mem hi)
  · rw [List.getElem?_eq_none hi]; simp
theorem Zx4 {xs : List Int} {i : Nat} (h : i < xs.length) : xs.drop i = xs.getD i 0 :: xs.drop (i + 1) := by
  rw [List.drop_eq_getElem_cons h, List.getD_eq_getElem?_getD, List.getElem?_eq_getElem h]; rfl
def I64 (n : Int) : Prop := -9223372036854775808 <= n /\ n <= 9223372036854775807
end Go.Sx
