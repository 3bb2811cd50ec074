/- Part of the proof: SxTreeM. -/
import Derived.Test.YtinjdimejijabaaSxFitV
import Derived.Test.YtinjdimejijabaaSxEv
set_option linter.unusedVariables false
set_option linter.unusedSimpArgs false
namespace Go.Sx
def upI (n : Nat) : List Int := (List.range n).map (fun i : Nat => (i : Int))
theorem ZhZ (n : Nat) : (upI n).length = n := by simp [upI]
theorem Zi2 {x : Int} {n : Nat} : x ∈ upI n ↔ 0 <= x /\ x < n := by
  unfold upI
  rw [List.mem_map]
  constructor
  · rintro ⟨i, hi, rfl⟩
    have := List.mem_range.1 hi
    omega
  · intro ⟨h1, h2⟩
    obtain ⟨k, rfl⟩ := Int.eq_ofNat_of_zero_le h1
    exact ⟨k, List.mem_range.2 (by omega), rfl⟩
theorem ZjF (n : Nat) : upI (n + 1) = upI n ++ [(n : Int)] := by simp [upI, List.range_succ]
def Zip (a v : Int) : List Int := upI ((v + a - 1) / a).toNat
theorem ZiY {a : Int} (h : 1 <= a) : Zip a 0 = [] := by
  have : (0 + a - 1) / a = 0 := Int.ediv_eq_zero_of_lt (by omega) (by omega)
  unfold Zip; rw [this]; rfl
theorem ZiZ {a v : Int} (ha : 1 <= a) (hv : 0 <= v) : Zdd (v / a) (Zip a v) = Zip a (v + 1) := by
  have d1 := Int.mul_ediv_add_emod v a
  have d2 := Int.emod_nonneg v (show a ≠ 0 by omega)
  have d3 := Int.emod_lt_of_pos v (show 0 < a by omega)
  have d4 := Int.ediv_nonneg hv (show 0 <= a by omega)
  generalize hq : v / a = q at *
  generalize hr : v % a = r at *
  have h2 : (v + 1 + a - 1) / a = q + 1 := by
    rw [show v + 1 + a - 1 = r + a * (q + 1) by rw [Int.mul_add]; omega, Int.add_mul_ediv_left _ _ (by omega), Int.ediv_eq_zero_of_lt d2 d3]; omega
  obtain ⟨k, rfl⟩ := Int.eq_ofNat_of_zero_le d4
  by_cases h0 : r = 0
  · have h1 : (v + a - 1) / a = k := by
      rw [show v + a - 1 = (a - 1) + a * k by omega, Int.add_mul_ediv_left _ _ (by omega), Int.ediv_eq_zero_of_lt (by omega) (by omega)]; omega
    unfold Zip Zdd
    rw [h1, h2, if_neg (by rw [Zi2]; omega), show ((k : Int) + 1).toNat = k + 1 by omega, ZjF]
    rfl
  · have h1 : (v + a - 1) / a = k + 1 := by
      rw [show v + a - 1 = (r - 1) + a * (k + 1) by rw [Int.mul_add]; omega, Int.add_mul_ediv_left _ _ (by omega), Int.ediv_eq_zero_of_lt (by omega) (by omega)]; omega
    unfold Zip Zdd
    rw [h1, h2, if_pos (by rw [Zi2]; omega)]
theorem Zib {p : PlanV} (hs : p.shaped = true) {l : Int} (h1 : 1 <= l) (h2 : l < p.levels) : ((Zip p.arity (p.width (l - 1))).length : Int) = p.width l := by
  have hw := PlanV.wid hs
  obtain ⟨k, hk0⟩ := Int.eq_ofNat_of_zero_le (show 0 <= l - 1 by omega)
  obtain rfl : l = (k : Int) + 1 := by omega
  have hk : k + 1 < p.widths.length := by unfold PlanV.levels at h2; omega
  have h3 := hw.next k hk
  have h4 := hw.least (k + 1) (by omega)
  unfold Zip
  rw [ZhZ]
  unfold PlanV.width
  rw [if_pos (by omega), if_pos (by omega), show ((k : Int) + 1 - 1).toNat = k by omega, show ((k : Int) + 1).toNat = k + 1 by omega, <- h3]
  omega
end Go.Sx
