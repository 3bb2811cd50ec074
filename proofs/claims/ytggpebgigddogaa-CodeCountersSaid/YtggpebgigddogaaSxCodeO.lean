/- Two parts of the proof. -/
import Derived.Test.YtggpebgigddogaaSxOpX
import Derived.Test.YtggpebgigddogaaSxCodeN
set_option linter.unusedVariables false
set_option linter.unusedSimpArgs false
namespace Go.Sx
theorem numB_mod : ∀ (m : Nat) (a b : Int), a % 256 ^ m = b % 256 ^ m -> numB a m = numB b m
  | 0, _, _, _ => rfl
  | m + 1, a, b, h => by
    rw [Int.pow_succ] at h
    have hp : (0 : Int) < 256 ^ m := Int.pow_pos (by decide)
    have h1 : a % 256 ^ m = b % 256 ^ m := by
      have := congrArg (· % (256 ^ m : Int)) h
      simpa only [Int.emod_emod_of_dvd _ (Int.dvd_mul_right (256 ^ m) 256)] using this
    obtain ⟨c, hc⟩ : (256 ^ m * 256) ∣ (a - b) := Int.dvd_of_emod_eq_zero (by rw [Int.sub_emod, h, Int.sub_self]; rfl)
    have h2 : a / 256 ^ m = b / 256 ^ m + 256 * c := by
      rw [show a = b + 256 ^ m * (256 * c) by rw [<- Int.mul_assoc, <- hc]; omega, Int.add_mul_ediv_left _ _ (by omega)]
    simp only [numB]
    rw [numB_mod m _ _ h1, h2, Int.add_mul_emod_self_left]
theorem readB_numB (v : Int) (m : Nat) : readB (numB v m) = v % 256 ^ m := by
  have h0 : (0 : Int) < 256 ^ m := Int.pow_pos (by decide)
  have h1 := Int.emod_nonneg v (show (256 : Int) ^ m ≠ 0 by omega)
  rw [numB_mod m v (v % 256 ^ m) (Int.emod_emod_of_dvd v (Int.dvd_refl _)).symm]
  have : v % 256 ^ m = (((v % 256 ^ m).toNat : Nat) : Int) := (Int.toNat_of_nonneg h1).symm
  rw [this, numB_nat, Int.natCast_emod, Int.natCast_pow]
  have h2 := Int.emod_lt_of_pos v h0
  rw [Int.toNat_of_nonneg h1]
  exact Int.emod_eq_of_lt h1 h2
namespace OpV
end OpV
end Go.Sx

namespace Go.Sx
theorem setB_take {xs : List Int} {a n m : Nat} {v : Int} (hx : Byt xs) (h : 8 * m <= a) : (setB xs a n v).take m = xs.take m := by
  apply List.ext_getElem (by simp [setB_length])
  intro i h1 h2
  simp only [List.length_take] at h1 h2
  have hi : i < xs.length := by omega
  rw [List.getElem_take, List.getElem_take]
  have hb : ∀ c, c < 8 -> bitPut xs a n v (8 * i + c) = bit8 (xs[i]) c := fun c hc => by
    unfold bitPut
    rw [if_neg (by omega)]
    unfold bitB
    rw [show (8 * i + c) / 8 = i by omega, show (8 * i + c) % 8 = c by omega, List.getD_eq_getElem?_getD, List.getElem?_eq_getElem hi]
    rfl
  have he : (setB xs a n v)[i]'(by rw [setB_length]; exact hi) = byteOf fun c => bitPut xs a n v (8 * i + c) := by
    simp only [setB, List.getElem_map, List.getElem_range]
  rw [he]
  have hob := byteOf_bits (f := fun c => bitPut xs a n v (8 * i + c)) fun c _ => bitPut_01 _ _ _ _ _
  exact byte_ext (hx _ (List.getElem_mem hi)) hob.1 fun c hc => by rw [hob.2 c hc, hb c hc]
namespace PlanV
theorem cnt_step {p : PlanV} {m : Int} {xs : List Int} (hw : p.wrongC m xs = 0) {k : Nat} (hk : k < xs.length) :
    p.cntF m xs (k + 1) = setB (p.cntF m xs k) (64 + k * p.minor.toNat) p.minor.toNat (xs.getD k 0) /\ 64 + k * p.minor.toNat + p.minor.toNat <= 256 /\ 0 <= xs.getD k 0 /\ xs.getD k 0 < 2 ^ p.minor.toNat := by
  obtain ⟨hr, _, hl, hx⟩ := wrongC_zero hw
  have hf := right_facts hr
  have hv := hx k hk
  unfold top at hv
  have hm : k * p.minor.toNat + p.minor.toNat <= 64 := by
    have : (k + 1) * p.minor.toNat <= 8 * 8 := Nat.mul_le_mul (by omega) (by omega)
    rw [Nat.add_mul, Nat.one_mul] at this
    exact this
  have hc : (64 : Int) + (k : Int) * p.minor = ((64 + k * p.minor.toNat : Nat) : Int) := by
    rw [Int.natCast_add, Int.natCast_mul, show ((p.minor.toNat : Nat) : Int) = p.minor by omega]; rfl
  refine ⟨?_, by omega, hv.1, by omega⟩
  rw [cntF, hc]
  have he : putE (p.cntF m xs k).length ((64 + k * p.minor.toNat : Nat) : Int) p.minor (xs.getD k 0) = 0 := by
    unfold putE
    rw [cntF_length, if_pos, if_pos (by omega)]
    exact decide_eq_true (by omega)
  unfold putL
  rw [if_pos he, Int.toNat_natCast]
theorem cnt_get {p : PlanV} {m : Int} {xs : List Int} (hw : p.wrongC m xs = 0) : ∀ (k : Nat), k <= xs.length -> (p.cntF m xs k).take 8 = numB m 8 /\ ∀ i, i < k -> getB (p.cntF m xs k) (64 + i * p.minor.toNat) p.minor.toNat = xs.getD i 0
  | 0, _ => ⟨by rw [cntF, List.take_left' (numB_length _ _)], fun i hi => by omega⟩
  | k + 1, hk => by
    obtain ⟨h1, h2⟩ := cnt_get hw k (by omega)
    obtain ⟨e, hfit, hv0, hv1⟩ := cnt_step hw (show k < xs.length by omega)
    rw [e]
    refine ⟨by rw [setB_take (cntF_byt _ _ _ _) (by omega), h1], fun i hi => ?_⟩
    have hfit' : 64 + k * p.minor.toNat + p.minor.toNat <= 8 * (p.cntF m xs k).length := by rw [cntF_length]; omega
    by_cases hik : i = k
    · subst hik
      rw [getB_put' (v := xs.getD i 0) fun j hj => ?_, Int.emod_eq_of_lt hv0 hv1]
      rw [setB_bit hfit']
      unfold bitPut
      rw [if_pos (by omega), show 64 + i * p.minor.toNat + j - (64 + i * p.minor.toNat) = j by omega]
    · have hlt : i * p.minor.toNat + p.minor.toNat <= k * p.minor.toNat := by
        have : (i + 1) * p.minor.toNat <= k * p.minor.toNat := Nat.mul_le_mul (by omega) (Nat.le_refl _)
        rw [Nat.add_mul, Nat.one_mul] at this
        exact this
      rw [getB_congr' (xs := p.cntF m xs k) fun j hj => ?_, h2 i (by omega)]
      rw [setB_bit hfit']
      unfold bitPut
      rw [if_neg (by omega)]
end PlanV
end Go.Sx
