/- Part of the proof: SxHelp. -/
import Derived.Test.YtinjdimejijabaaSxCall
set_option linter.unusedVariables false
set_option linter.unusedSimpArgs false
namespace Go.Sx
def ZdQ : List (Nat × Nat) -> Nat -> Nat
  | [], i => i
  | (k, j) :: r, i => bif Nat.beq k i then j else ZdQ r i
def tau (l : List (Nat × Nat)) (i : Nat) : Part := ZbB (ZdQ l i)
def ZkY (n : Nat) : List (Nat × Nat) -> Bool
  | [] => true
  | (k, _) :: r => Nat.ble n k && ZkY n r
theorem ZjO {n : Nat} : ∀ {l : List (Nat × Nat)}, ZkY n l = true -> ∀ i, i < n -> tau l i = ZbB i
  | [], _, i, _ => rfl
  | (k, j) :: r, h, i, hi => by
    simp only [ZkY, Bool.and_eq_true] at h
    have h1 := Nat.le_of_ble_eq_true h.1
    have h2 := ZjO h.2 i hi
    have hb : Nat.beq k i = false := by
      cases hb : Nat.beq k i
      · rfl
      · have := Nat.eq_of_beq_eq_true hb; omega
    simp only [tau, ZdQ, hb, cond_false]
    exact h2
theorem Zci {n0 : Nat} {K : SVal -> Heap -> Prop} {r r' : SVal} {H H' : Heap} (l : List (Nat × Nat)) (h1 : ZkY n0 l = true) (h7 : K r' H') (h2 : n0 <= H'.next) (h3 : r = r'.ren (tau l)) (h4 : r'.bd H'.next)
    (h5 : ZaU (tau l) H'.next H H'.ents) (h6 : Zbg (tau l) H'.ents) : Ret n0 K r H := .inl ⟨tau l, r', H', ZjO h1, h2, h3, h4, h5, h6, h7⟩
theorem Zxw {n0 : Nat} {K : SVal -> Heap -> Prop} {r' : SVal} {H H' : Heap} (l : List (Nat × Nat)) (z : List Chunk) (hz : ZaS z = true) (h0 : Zav z = 0) (h1 : ZkY n0 l = true) (h7 : K r' H') (h2 : n0 <= H'.next) (h3 : Zb5 z H = r'.ren (tau l)) (h4 : r'.bd H'.next)
    (h5 : ZaU (tau l) H'.next (ZbW z H) H'.ents) (h6 : Zbg (tau l) H'.ents) : Ret n0 K .nilslice H := .inr (.inl ⟨z, hz, h0, .inl ⟨rfl, tau l, r', H', ZjO h1, h2, h3, h4, h5, h6, h7⟩⟩)
theorem ZcB {n0 : Nat} {e e' : Env} {H H' : Heap} (l : List (Nat × Nat)) (h1 : ZkY n0 l = true) (h2 : n0 <= H'.next) (h3 : Zbe (tau l) H'.next e e') (h5 : ZaU (tau l) H'.next H H'.ents) (h6 : Zbg (tau l) H'.ents) :
    Sub n0 (tau l) e H e' H' := ⟨ZjO h1, h2, h3, h5, h6⟩
theorem Zyb (k : IntKind) (a b : Int) (h : b.toNat <= k.bits) : ZGv k a b = a / 2 ^ b.toNat := by
  unfold ZGv
  rw [Nat.min_eq_left h, Int.fdiv_eq_ediv_of_nonneg _ (Int.pow_nonneg (by omega))]
theorem wrap_u8 (n : Int) : IntKind.u8.wrap n = n % 256 := by rw [IntKind.wrap_u8]
theorem Zdo (n : Int) : IntKind.u64.wrap n = n % 18446744073709551616 := by
  simp [IntKind.wrap, IntKind.bits, IntKind.signed]
theorem wrap_i64 {n : Int} (h : -9223372036854775808 <= n) (h' : n <= 9223372036854775807) : IntKind.i64.wrap n = n := by rw [IntKind.wrap_i64]; omega
theorem Zj2 {b : Int} (a : Nat) (hb : b = a) (ha : 0 < a) {m n : Nat} (h : m <= n) : b ^ m <= b ^ n := by
  subst hb
  rw [<- Int.natCast_pow, <- Int.natCast_pow]
  exact Int.ofNat_le.2 (Nat.pow_le_pow_right ha h)
theorem ZAE {a b c : Int} {n : Nat} (h0 : 0 <= a) (h1 : a < 2 ^ n) (hc : 0 <= c) (hb : b = c * 2 ^ n) (hs : a + b < 18446744073709551616) : ior .u64 a b = a + b := by
  obtain ⟨x, rfl⟩ := Int.eq_ofNat_of_zero_le h0
  obtain ⟨y, rfl⟩ := Int.eq_ofNat_of_zero_le hc
  have h1' : x < 2 ^ n := by have : ((x : Nat) : Int) < ((2 ^ n : Nat) : Int) := by rw [Int.natCast_pow]; exact h1
                             omega
  have hb' : b = ((y * 2 ^ n : Nat) : Int) := by rw [hb, Int.natCast_mul, Int.natCast_pow]; rfl
  subst hb'
  have hs' : x + y * 2 ^ n < 18446744073709551616 := by omega
  have hor : (BitVec.ofInt 64 (x : Int) ||| BitVec.ofInt 64 ((y * 2 ^ n : Nat) : Int)).toNat = x + y * 2 ^ n := by
    rw [BitVec.toNat_or, BitVec.ofInt_natCast, BitVec.ofInt_natCast, BitVec.toNat_ofNat, BitVec.toNat_ofNat, Nat.mod_eq_of_lt (by omega), Nat.mod_eq_of_lt (by omega), Nat.or_comm, Nat.mul_comm y,
      <- Nat.two_pow_add_eq_or_of_lt h1' y]
    omega
  unfold ior
  change IntKind.u64.wrap (((BitVec.ofInt 64 (x : Int) ||| BitVec.ofInt 64 ((y * 2 ^ n : Nat) : Int)).toNat : Nat) : Int) = _
  rw [hor, Zdo, Int.natCast_add, Int.emod_eq_of_lt (by omega) (by omega)]
theorem Zte {a b : Int} (h : b.toNat <= 64) : ZAC .u64 a b = (a * 2 ^ b.toNat) % 18446744073709551616 := by
  have hk : IntKind.u64.bits = 64 := rfl
  unfold ZAC
  rw [hk, Nat.min_eq_left h, Zdo]
def Byt (xs : List Int) : Prop := ∀ x ∈ xs, 0 <= x /\ x < 256
def Zco : List Int -> Int
  | [] => 0
  | x :: r => x + 256 * Zco r
theorem Zjn : ∀ {xs : List Int}, Byt xs -> 0 <= Zco xs /\ Zco xs < 256 ^ xs.length
  | [], _ => by simp [Zco]
  | x :: r, h => by
    have h1 := h x (by simp)
    have h2 := Zjn (xs := r) (fun y hy => h y (by simp [hy]))
    simp only [Zco, List.length_cons, Int.pow_succ]
    omega
theorem ZiE : ∀ (xs : List Int) (y : Int), Zco (xs ++ [y]) = Zco xs + y * 256 ^ xs.length
  | [], y => by simp [Zco]
  | x :: r, y => by
    simp only [List.cons_append, Zco, ZiE r y, List.length_cons, Int.pow_succ, Int.mul_add]
    have : 256 * (y * 256 ^ r.length) = y * (256 ^ r.length * 256) := by
      rw [Int.mul_comm 256, Int.mul_assoc]
    omega
theorem Byt.take {xs : List Int} (h : Byt xs) (n : Nat) : Byt (xs.take n) := fun x hx => h x (List.mem_of_mem_take hx)
theorem Byt.drop {xs : List Int} (h : Byt xs) (n : Nat) : Byt (xs.drop n) := fun x hx => h x (List.mem_of_mem_drop hx)
theorem Zfh {xs : List Int} {i : Nat} (h : i < xs.length) : xs.take (i + 1) = xs.take i ++ [xs.getD i 0] := by
  rw [List.take_add_one, List.getElem?_eq_getElem h, List.getD_eq_getElem?_getD, List.getElem?_eq_getElem h]; rfl
theorem Byt.getD {xs : List Int} (h : Byt xs) (i : Nat) : 0 <= xs.getD i 0 /\ xs.getD i 0 < 256 := by
  rw [List.getD_eq_getElem?_getD]
  rcases Nat.lt_or_ge i xs.length with hi | hi
  · rw [List.getElem?_eq_getElem hi]; exact h _ (List.getElem_mem hi)
  · rw [List.getElem?_eq_none hi]; simp
theorem Zyp {xs : List Int} {i : Nat} (h : i < xs.length) : xs.drop i = xs.getD i 0 :: xs.drop (i + 1) := by
  rw [List.drop_eq_getElem_cons h, List.getD_eq_getElem?_getD, List.getElem?_eq_getElem h]; rfl
def I64 (n : Int) : Prop := -9223372036854775808 <= n /\ n <= 9223372036854775807
end Go.Sx
