/- Plain laws of a core's operations on a line. -/
import Derived.Test.YtggpebgigddogaaSxOpX
set_option linter.unusedVariables false
set_option linter.unusedSimpArgs false
namespace Go.Sx
theorem numB_mod : ∀ (m : Nat) (a b : Int), a % 256 ^ m = b % 256 ^ m → numB a m = numB b m
  | 0, _, _, _ => rfl
  | m + 1, a, b, h => by
    rw [Int.pow_succ] at h
    have hp : (0 : Int) < 256 ^ m := Int.pow_pos (by decide)
    have h1 : a % 256 ^ m = b % 256 ^ m := by
      have := congrArg (· % (256 ^ m : Int)) h
      simpa only [Int.emod_emod_of_dvd _ (Int.dvd_mul_right (256 ^ m) 256)] using this
    obtain ⟨c, hc⟩ : (256 ^ m * 256) ∣ (a - b) := Int.dvd_of_emod_eq_zero (by rw [Int.sub_emod, h, Int.sub_self]; rfl)
    have h2 : a / 256 ^ m = b / 256 ^ m + 256 * c := by
      rw [show a = b + 256 ^ m * (256 * c) by rw [← Int.mul_assoc, ← hc]; omega, Int.add_mul_ediv_left _ _ (by omega)]
    simp only [numB]
    rw [numB_mod m _ _ h1, h2, Int.add_mul_emod_self_left]
theorem numB_cons (v : Int) : ∀ m, numB v (m + 1) = v % 256 :: numB (v / 256) m
  | 0 => by simp [numB]
  | m + 1 => by
    have e : v / 256 / 256 ^ m = v / 256 ^ (m + 1) := by
      rw [Int.ediv_ediv, if_neg (by omega), Int.sub_zero, Int.pow_succ, Int.mul_comm (256 ^ m)]
    rw [numB, numB_cons v m, numB, e]
    rfl
theorem numB_read : ∀ {xs : List Int}, Byt xs → numB (readB xs) xs.length = xs
  | [], _ => rfl
  | x :: r, h => by
    have hx := h x (by simp)
    have hr : Byt r := fun y hy => h y (by simp [hy])
    simp only [readB, List.length_cons]
    have e1 : (x + 256 * readB r) % 256 = x := by omega
    have e2 : (x + 256 * readB r) / 256 = readB r := by omega
    rw [numB_cons, e1, e2, numB_read hr]
theorem readB_numB (v : Int) (m : Nat) : readB (numB v m) = v % 256 ^ m := by
  have h0 : (0 : Int) < 256 ^ m := Int.pow_pos (by decide)
  have h1 := Int.emod_nonneg v (show (256 : Int) ^ m ≠ 0 by omega)
  rw [numB_mod m v (v % 256 ^ m) (Int.emod_emod_of_dvd v (Int.dvd_refl _)).symm]
  have : v % 256 ^ m = (((v % 256 ^ m).toNat : Nat) : Int) := (Int.toNat_of_nonneg h1).symm
  rw [this, numB_nat, Int.natCast_emod, Int.natCast_pow]
  have h2 := Int.emod_lt_of_pos v h0
  rw [Int.toNat_of_nonneg h1]
  exact Int.emod_eq_of_lt h1 h2
theorem pow_dvd64 {n : Int} (h : sizeB n = true) : ((256 : Int) ^ n.toNat) ∣ 18446744073709551616 ∧ (256 : Int) ≤ 256 ^ n.toNat ∧ (256 : Int) ^ n.toNat ≤ 18446744073709551616 := by
  rcases size_cases h with rfl | rfl | rfl | rfl <;> decide
namespace OpV
theorem laid_num {o o' : OpV} {k : Nat} {xs : List Int} {v : Int} (hn : o'.on = o.on) (h : k + o.on.toNat ≤ xs.length) : o'.numAt k (o.laid k xs v) = v % 256 ^ o.on.toNat := by
  unfold numAt laid
  have hl : (xs.take k).length = k := by rw [List.length_take]; omega
  rw [List.append_assoc, List.drop_append_of_le_length (by omega), List.drop_of_length_le (by omega), List.nil_append, hn, List.take_append_of_le_length (by rw [numB_length]; exact Nat.le_refl _), List.take_of_length_le (by rw [numB_length]; exact Nat.le_refl _), readB_numB]
theorem laid_laid {o o' : OpV} {k : Nat} {xs : List Int} {v w : Int} (hn : o'.on = o.on) (h : k + o.on.toNat ≤ xs.length) : o'.laid k (o.laid k xs v) w = o.laid k xs w := by
  unfold laid
  have hl : (xs.take k).length = k := by rw [List.length_take]; omega
  have h1 : ((xs.take k ++ numB v o.on.toNat) ++ xs.drop (k + o.on.toNat)).take k = xs.take k := by
    rw [List.append_assoc, List.take_append_of_le_length (by omega), List.take_of_length_le (by omega)]
  have h2 : ((xs.take k ++ numB v o.on.toNat) ++ xs.drop (k + o.on.toNat)).drop (k + o.on.toNat) = xs.drop (k + o.on.toNat) := by
    rw [List.drop_append_of_le_length (by rw [List.length_append, numB_length]; omega), List.drop_of_length_le (by rw [List.length_append, numB_length]; omega), List.nil_append]
  rw [hn, h1, h2]
theorem laid_back {o : OpV} {k : Nat} {xs : List Int} {v : Int} (hb : Byt xs) (h : k + o.on.toNat ≤ xs.length) (hv : v % 256 ^ o.on.toNat = o.numAt k xs) : o.laid k xs v = xs := by
  have hl : ((xs.drop k).take o.on.toNat).length = o.on.toNat := by rw [List.length_take, List.length_drop]; omega
  have hz : numB v o.on.toNat = (xs.drop k).take o.on.toNat := by
    have hr := readB_lt ((hb.drop k).take o.on.toNat)
    rw [hl] at hr
    have := numB_read ((hb.drop k).take o.on.toNat)
    rw [hl] at this
    rw [← this]
    refine numB_mod _ _ _ ?_
    rw [hv]
    exact (Int.emod_eq_of_lt hr.1 hr.2).symm
  unfold laid
  rw [hz, List.append_assoc, ← List.drop_drop, List.take_append_drop, List.take_append_drop]
theorem next_other {o : OpV} {xs : List Int} {i : Nat} (hl : xs.length = 32) (h : chgB o.okind = false ∨ i < o.place ∨ o.place + o.on.toNat ≤ i) : (o.next xs).getD i 0 = xs.getD i 0 := by
  unfold next
  split
  · rename_i hg
    have hs := (good_true hg).1
    have hd := (doAt_le (at_ := o.oat) hs).2.1
    have hd : o.place + o.on.toNat ≤ 32 := hd
    unfold nextAt
    split
    · rename_i v hv
      rcases h with h | h
      · exfalso
        rcases (good_true hg).2 with h1 | h1
        · rw [h] at h1; cases h1
        · rw [put_load h1] at hv; cases hv
      · unfold laid
        have hk : (xs.take o.place).length = o.place := by rw [List.length_take]; omega
        simp only [List.getD_eq_getElem?_getD]
        congr 1
        rcases h with h | h
        · rw [List.append_assoc, List.getElem?_append_left (by omega), List.getElem?_take_of_lt h]
        · rw [List.getElem?_append_right (by rw [List.length_append, numB_length]; omega), List.length_append, numB_length, hk, List.getElem?_drop]
          congr 1; omega
    · rfl
  · rfl
theorem result_le {o : OpV} {xs : List Int} (hs : sizeB o.on = true) (hx : LineOk xs) : o.result xs ≤ maskI o.on := by
  rw [mask_pow hs]
  have hp := (pow_dvd64 hs).2.1
  unfold result
  split
  · rename_i hg
    have hd : o.place + o.on.toNat ≤ 32 := (doAt_le (at_ := o.oat) hs).2.1
    have hx1 := hx.1
    have hb : Byt xs := hx.2
    have h := (readB_lt ((hb.drop o.place).take o.on.toNat)).2
    rw [show ((xs.drop o.place).take o.on.toNat).length = o.on.toNat by rw [List.length_take, List.length_drop]; omega] at h
    unfold numAt
    omega
  · omega
end OpV
end Go.Sx
