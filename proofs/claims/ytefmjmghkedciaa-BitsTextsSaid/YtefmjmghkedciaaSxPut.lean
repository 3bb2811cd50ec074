/- Bits that are put and got, as functions. -/
import Derived.Test.YtefmjmghkedciaaSxBit
set_option linter.unusedVariables false
set_option linter.unusedSimpArgs false
namespace Go.Sx
/-- The byte whose bits are told. -/
def byteOf (f : Nat → Int) : Int := f 0 + 2 * f 1 + 4 * f 2 + 8 * f 3 + 16 * f 4 + 32 * f 5 + 64 * f 6 + 128 * f 7
theorem byteOf_bits {f : Nat → Int} (h : ∀ c, c < 8 → f c = 0 ∨ f c = 1) : (0 ≤ byteOf f ∧ byteOf f < 256) ∧ ∀ c, c < 8 → bit8 (byteOf f) c = f c := by
  have g : ∀ c, c < 8 → 0 ≤ f c ∧ f c ≤ 1 := fun c hc => by rcases h c hc with h | h <;> omega
  have h0 := g 0 (by omega)
  have h1 := g 1 (by omega)
  have h2 := g 2 (by omega)
  have h3 := g 3 (by omega)
  have h4 := g 4 (by omega)
  have h5 := g 5 (by omega)
  have h6 := g 6 (by omega)
  have h7 := g 7 (by omega)
  clear h g
  unfold byteOf bit8
  refine ⟨by omega, fun c hc => ?_⟩
  have : c = 0 ∨ c = 1 ∨ c = 2 ∨ c = 3 ∨ c = 4 ∨ c = 5 ∨ c = 6 ∨ c = 7 := by omega
  clear hc
  rcases this with rfl | rfl | rfl | rfl | rfl | rfl | rfl | rfl <;> simp only [Int.reducePow, Int.ediv_one] <;> omega
theorem bit8_01 (x : Int) (c : Nat) : bit8 x c = 0 ∨ bit8 x c = 1 := by unfold bit8; omega
theorem byte_ext {x y : Int} (hx : 0 ≤ x ∧ x < 256) (hy : 0 ≤ y ∧ y < 256) (h : ∀ c, c < 8 → bit8 y c = bit8 x c) : y = x := by
  have h0 := h 0 (by omega)
  have h1 := h 1 (by omega)
  have h2 := h 2 (by omega)
  have h3 := h 3 (by omega)
  have h4 := h 4 (by omega)
  have h5 := h 5 (by omega)
  have h6 := h 6 (by omega)
  have h7 := h 7 (by omega)
  unfold bit8 at *
  simp only [Int.reducePow, Int.ediv_one, Nat.reducePow] at *
  omega
/-- The bits behind a number's being put. -/
def bitPut (xs : List Int) (a n : Nat) (v : Int) (k : Nat) : Int := if a ≤ k ∧ k < a + n then v / 2 ^ (k - a) % 2 else bitB xs k
def setB (xs : List Int) (a n : Nat) (v : Int) : List Int := (List.range xs.length).map fun j => byteOf fun c => bitPut xs a n v (8 * j + c)
theorem bitPut_01 (xs : List Int) (a n : Nat) (v : Int) (k : Nat) : bitPut xs a n v k = 0 ∨ bitPut xs a n v k = 1 := by
  unfold bitPut
  have := bitB_01 xs k
  split <;> omega
theorem setB_length (xs : List Int) (a n : Nat) (v : Int) : (setB xs a n v).length = xs.length := by simp [setB]
theorem setB_byt (xs : List Int) (a n : Nat) (v : Int) : Byt (setB xs a n v) := fun x hx => by
  unfold setB at hx
  obtain ⟨j, _, rfl⟩ := List.mem_map.1 hx
  exact (byteOf_bits fun c _ => bitPut_01 _ _ _ _ _).1
theorem getD_out {xs : List Int} {j : Nat} (h : xs.length ≤ j) : xs.getD j 0 = 0 := by
  rw [List.getD_eq_getElem?_getD, List.getElem?_eq_none h]; rfl
theorem setB_bit {xs : List Int} {a n : Nat} {v : Int} (hfit : a + n ≤ 8 * xs.length) (k : Nat) : bitB (setB xs a n v) k = bitPut xs a n v k := by
  unfold bitB
  rcases Nat.lt_or_ge (k / 8) xs.length with hk | hk
  · have : (setB xs a n v).getD (k / 8) 0 = byteOf fun c => bitPut xs a n v (8 * (k / 8) + c) := by
      unfold setB
      rw [List.getD_eq_getElem?_getD, List.getElem?_map, List.getElem?_range hk]
      rfl
    rw [this, (byteOf_bits fun c _ => bitPut_01 _ _ _ _ _).2 _ (Nat.mod_lt _ (by omega)), show 8 * (k / 8) + k % 8 = k by omega]
  · rw [getD_out (by rw [setB_length]; exact hk)]
    unfold bitPut
    rw [if_neg (by omega)]
    unfold bitB
    rw [getD_out hk]
theorem byt_ext' {xs ys : List Int} (hx : Byt xs) (hy : Byt ys) (hl : ys.length = xs.length) (h : ∀ k, bitB ys k = bitB xs k) : ys = xs := by
  apply List.ext_getElem hl
  intro i h1 h2
  refine byte_ext (hx _ (List.getElem_mem h2)) (hy _ (List.getElem_mem h1)) fun c hc => ?_
  have := h (8 * i + c)
  unfold bitB at this
  rw [show (8 * i + c) / 8 = i by omega, show (8 * i + c) % 8 = c by omega, List.getD_eq_getElem?_getD, List.getD_eq_getElem?_getD, List.getElem?_eq_getElem h1, List.getElem?_eq_getElem h2] at this
  exact this
theorem setB_uniq {xs ys : List Int} {a n : Nat} {v : Int} (hfit : a + n ≤ 8 * xs.length) (h1 : ys.length = xs.length) (h2 : Byt ys) (h3 : ∀ k, bitB ys k = bitPut xs a n v k) : ys = setB xs a n v :=
  byt_ext' (setB_byt _ _ _ _) h2 (by rw [setB_length, h1]) fun k => by rw [h3, setB_bit hfit]
/-- Bits that are alike make one number. -/
theorem getB_congr' {xs ys : List Int} {a : Nat} : ∀ {n : Nat}, (∀ i, i < n → bitB ys (a + i) = bitB xs (a + i)) → getB ys a n = getB xs a n
  | 0, _ => rfl
  | n + 1, h => by rw [getB, getB, getB_congr' (fun i hi => h i (by omega)), h n (by omega)]
/-- The number whose bits were put. -/
theorem getB_put' {ys : List Int} {a : Nat} {v : Int} : ∀ {n : Nat}, (∀ i, i < n → bitB ys (a + i) = v / 2 ^ i % 2) → getB ys a n = v % 2 ^ n
  | 0, _ => by simp [getB, Int.emod_one]
  | n + 1, h => by
    rw [getB, getB_put' (fun i hi => h i (by omega)), h n (by omega), Int.pow_succ]
    have hp : (0 : Int) < 2 ^ n := Int.pow_pos (by omega)
    have h1 := Int.emod_add_mul_ediv v (2 ^ n)
    have h2 := Int.emod_add_mul_ediv (v / 2 ^ n) 2
    have h3 := Int.emod_nonneg v (by omega : (2:Int) ^ n ≠ 0)
    have h4 := Int.emod_lt_of_pos v hp
    have h5 : v = (v % 2 ^ n + v / 2 ^ n % 2 * 2 ^ n) + (2 ^ n * 2) * (v / 2 ^ n / 2) := by
      calc v = v % 2 ^ n + 2 ^ n * (v / 2 ^ n) := by omega
        _ = v % 2 ^ n + 2 ^ n * (v / 2 ^ n % 2 + 2 * (v / 2 ^ n / 2)) := by rw [h2]
        _ = _ := by rw [Int.mul_add, Int.mul_comm (2 ^ n) (v / 2 ^ n % 2), ← Int.mul_assoc, Int.add_assoc]
    conv => rhs; rw [h5]
    rw [Int.add_mul_emod_self_left]
    symm
    apply Int.emod_eq_of_lt
    · rcases (show v / 2 ^ n % 2 = 0 ∨ v / 2 ^ n % 2 = 1 by omega) with h | h <;> rw [h] <;> omega
    · rcases (show v / 2 ^ n % 2 = 0 ∨ v / 2 ^ n % 2 = 1 by omega) with h | h <;> rw [h] <;> omega
/-- Is there room for so many bits? -/
def thereB (m : Nat) (a n : Int) : Bool := decide (0 ≤ a ∧ 0 ≤ n ∧ n ≤ 64 ∧ n ≤ 8 * m ∧ a ≤ 8 * m - n)
def putE (m : Nat) (a n v : Int) : Int := if thereB m a n = true then (if v < 2 ^ n.toNat then 0 else 1) else 2
def putL (xs : List Int) (a n v : Int) : List Int := if putE xs.length a n v = 0 then setB xs a.toNat n.toNat v else xs
theorem putL_length (xs : List Int) (a n v : Int) : (putL xs a n v).length = xs.length := by unfold putL; split; exact setB_length _ _ _ _; rfl
theorem putL_byt {xs : List Int} {a n v : Int} (h : Byt xs) : Byt (putL xs a n v) := by unfold putL; split; exact setB_byt _ _ _ _; exact h
def gotE (m : Nat) (a n : Int) : Int := if thereB m a n = true then 0 else 2
def gotL (xs : List Int) (a n : Int) : Int := if thereB xs.length a n = true then getB xs a.toNat n.toNat else 0
end Go.Sx
