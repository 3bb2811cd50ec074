/- Bytes and their texts. -/
import Derived.Test.YtefmjmghkedciaaSxAes3
import Derived.Test.YtefmjmghkedciaaSxAes5
import Derived.Test.YtefmjmghkedciaaSxNum
set_option linter.unusedVariables false
set_option linter.unusedSimpArgs false
namespace Go.Sx
def hexB (x : Int) : List Int := [hexC (x / 16).toNat, hexC (x % 16).toNat]
def hexL (b : List Int) : List Int := b.flatMap hexB
def xorRow (a b : List Int) : List Int := List.zipWith (ixor .u8) a b
def textOk (s : ByteArray) : Bool := decide (s.size % 2 = 0) && unOk s
theorem bytesL_append (xs ys : List Int) : bytesL xs ++ bytesL ys = bytesL (xs ++ ys) := by
  apply ByteArray.ext
  rw [ByteArray.data_append]
  simp [bytesL]
theorem bytesL_size (xs : List Int) : (bytesL xs).size = xs.length := by simp [bytesL, ByteArray.size]
theorem bytesL_nil : bytesL [] = ⟨#[]⟩ := rfl
theorem sB_bytesL {xs : List Int} (h : Byt xs) (i : Nat) : sB (bytesL xs) i = xs.getD i 0 := by
  unfold sB bytesL
  by_cases hi : i < xs.length
  · have hb := h _ (List.getElem_mem hi)
    simp only [List.getD_eq_getElem?_getD, List.getElem?_map, List.getElem?_eq_getElem hi, Option.map_some, Option.getD_some]
    rw [UInt8.toNat_ofNat']
    omega
  · rw [getD_out (by omega), List.getD_eq_getElem?_getD, List.getElem?_eq_none (by simp; omega)]; rfl
def hexOk (n : Nat) : Prop := ishr .u8 (n : Nat) 4 = ((n / 16 : Nat) : Int) ∧ iand .u8 (n : Nat) 15 = ((n % 16 : Nat) : Int) ∧ IntKind.u8.wrap ((n : Int).tdiv 16) = ((n / 16 : Nat) : Int) ∧ (n : Int).tmod 16 = ((n % 16 : Nat) : Int)
instance (n : Nat) : Decidable (hexOk n) := by unfold hexOk; infer_instance
theorem hex_each : ∀ n, n < 256 → hexOk n := by decide +kernel
def dgt : ByteArray := ⟨#[48, 49, 50, 51, 52, 53, 54, 55, 56, 57, 97, 98, 99, 100, 101, 102]⟩
theorem dgt_size : dgt.size = 16 := rfl
theorem dgt_ext : ∀ k, k < 16 → dgt.extract k (k + 1) = bytesL [hexC k] := by decide +kernel
theorem dig_hex : ∀ k, k < 16 → digF (hexC k) = (k : Nat) ∧ 0 ≤ hexC k ∧ hexC k < 256 := by decide +kernel
/-- What the code meets of a byte. -/
theorem hex_at {x : Int} (h : 0 ≤ x ∧ x < 256) : ∃ p q : Nat, p < 16 ∧ q < 16 ∧ x = 16 * p + q ∧ hexB x = [hexC p, hexC q] ∧ ishr .u8 x 4 = (p : Nat) ∧ iand .u8 x 15 = (q : Nat) ∧ IntKind.u8.wrap (x.tdiv 16) = (p : Nat) ∧ x.tmod 16 = (q : Nat) := by
  obtain ⟨n, rfl⟩ := Int.eq_ofNat_of_zero_le h.1
  have := hex_each n (by omega)
  exact ⟨n / 16, n % 16, by omega, by omega, by omega, by unfold hexB; congr 2 <;> omega, this.1, this.2.1, this.2.2.1, this.2.2.2⟩
theorem hexL_append (a b : List Int) : hexL (a ++ b) = hexL a ++ hexL b := List.flatMap_append
theorem hexL_take_succ {b : List Int} {i : Nat} (h : i < b.length) : hexL (b.take (i + 1)) = hexL (b.take i) ++ hexB (b.getD i 0) := by
  rw [List.take_add_one, List.getElem?_eq_getElem h, hexL_append, List.getD_eq_getElem?_getD, List.getElem?_eq_getElem h]
  simp [hexL]
theorem hexL_length : ∀ b : List Int, (hexL b).length = 2 * b.length
  | [] => rfl
  | x :: r => by
    have := hexL_length r
    unfold hexL at this ⊢
    rw [List.flatMap_cons, List.length_append, this, List.length_cons]
    simp [hexB]; omega
theorem hexL_byt {b : List Int} (h : Byt b) : Byt (hexL b) := fun y hy => by
  obtain ⟨x, hx, hy⟩ := List.mem_flatMap.1 hy
  obtain ⟨p, q, hp, hq, _, e, _⟩ := hex_at (h x hx)
  rw [e] at hy
  simp only [List.mem_cons, List.not_mem_nil, or_false] at hy
  rcases hy with rfl | rfl
  · exact (dig_hex p hp).2
  · exact (dig_hex q hq).2
theorem hexL_get : ∀ {b : List Int} {i : Nat}, i < b.length → (hexL b).getD (2 * i) 0 = (hexB (b.getD i 0)).getD 0 0 ∧ (hexL b).getD (2 * i + 1) 0 = (hexB (b.getD i 0)).getD 1 0
  | [], _, h => by simp at h
  | x :: r, 0, _ => ⟨rfl, rfl⟩
  | x :: r, i + 1, h => by
    have := hexL_get (b := r) (i := i) (by simpa using h)
    unfold hexL at this ⊢
    rw [List.flatMap_cons]
    exact this
/-- Bytes come back from their text. -/
theorem un_hex {b : List Int} (h : Byt b) : textOk (bytesL (hexL b)) = true ∧ unL (bytesL (hexL b)) = b ∧ (bytesL (hexL b)).size = 2 * b.length := by
  have hs : (bytesL (hexL b)).size = 2 * b.length := by rw [bytesL_size, hexL_length]
  have at_ : ∀ k, k < b.length → digF (sB (bytesL (hexL b)) (2 * k)) ≥ 0 ∧ digF (sB (bytesL (hexL b)) (2 * k + 1)) ≥ 0 ∧ unAt (bytesL (hexL b)) k = b.getD k 0 := fun k hk => by
    obtain ⟨p, q, hp, hq, ex, e, _⟩ := hex_at (getDb h k)
    have g := hexL_get hk
    rw [e] at g
    unfold unAt
    rw [sB_bytesL (hexL_byt h), sB_bytesL (hexL_byt h), g.1, g.2]
    show digF (hexC p) ≥ 0 ∧ digF (hexC q) ≥ 0 ∧ 16 * digF (hexC p) + digF (hexC q) = _
    rw [(dig_hex p hp).1, (dig_hex q hq).1]
    omega
  refine ⟨?_, ?_, hs⟩
  · unfold textOk unOk unOkN
    rw [hs, Bool.and_eq_true, decide_eq_true_iff, List.all_eq_true]
    refine ⟨by omega, fun k hk => ?_⟩
    have := at_ k (by have := List.mem_range.1 hk; omega)
    rw [Bool.and_eq_true, decide_eq_true_iff, decide_eq_true_iff]
    exact ⟨this.1, this.2.1⟩
  · unfold unL
    rw [hs, show 2 * b.length / 2 = b.length by omega]
    exact ((range_ext (f := unAt (bytesL (hexL b))) rfl fun j hj => (at_ j hj).2.2.symm)).symm
theorem textOk_iff {s : ByteArray} : textOk s = true ↔ s.size % 2 = 0 ∧ unOk s = true := by unfold textOk; rw [Bool.and_eq_true, decide_eq_true_iff]
/- Bits in which rows are unlike. -/
theorem xorRow_length (a b : List Int) : (xorRow a b).length = min a.length b.length := List.length_zipWith
theorem xorRow_byt (a b : List Int) : Byt (xorRow a b) := fun x hx => by
  unfold xorRow at hx
  obtain ⟨i, hi, rfl⟩ := List.getElem_of_mem hx
  rw [List.getElem_zipWith]
  exact ixor_u8 _ _
theorem xorRow_get {a b : List Int} {i : Nat} (ha : i < a.length) (hb : i < b.length) : (xorRow a b).getD i 0 = ixor .u8 (a.getD i 0) (b.getD i 0) := by
  unfold xorRow
  rw [List.getD_eq_getElem?_getD, List.getElem?_zipWith, List.getElem?_eq_getElem ha, List.getElem?_eq_getElem hb, List.getD_eq_getElem?_getD, List.getElem?_eq_getElem ha, List.getD_eq_getElem?_getD, List.getElem?_eq_getElem hb]
  rfl
theorem bv_zero_of {x y : Int} (hx : 0 ≤ x ∧ x < 256) (hy : 0 ≤ y ∧ y < 256) : ixor .u8 (ixor .u8 x y) y = x :=
  bv_inj (ixor_u8 _ _) hx (by rw [bv_xor, bv_xor, BitVec.xor_assoc, BitVec.xor_self, BitVec.xor_zero])
theorem ixor_self8 {x : Int} : ixor .u8 x x = 0 := bv_inj (ixor_u8 _ _) (by omega) (by rw [bv_xor, BitVec.xor_self]; decide)
theorem xor_self_row (a : List Int) {i : Nat} (h : i < a.length) : (xorRow a a).getD i 0 = 0 := by rw [xorRow_get h h, ixor_self8]
theorem getD_ext {l m : List Int} (hl : l.length = m.length) (h : ∀ j, j < m.length → l.getD j 0 = m.getD j 0) : l = m :=
  (range_ext (f := fun j => m.getD j 0) hl h).trans (range_ext (f := fun j => m.getD j 0) rfl fun _ _ => rfl).symm
theorem xor_back {a b : List Int} (ha : Byt a) (hb : Byt b) : xorRow (xorRow a b) b = a.take (min a.length b.length) := by
  apply getD_ext
  · rw [xorRow_length, xorRow_length, List.length_take]; omega
  · intro j hj
    rw [List.length_take] at hj
    rw [xorRow_get (by rw [xorRow_length]; omega) (by omega), xorRow_get (by omega) (by omega), bv_zero_of (getDb ha j) (getDb hb j)]
    rw [List.getD_eq_getElem?_getD, List.getD_eq_getElem?_getD, List.getElem?_take_of_lt (by omega)]
end Go.Sx
