/- Numbers that are made to fit, in plain Lean. -/
import Derived.Test.YtefmjmghkedciaaSxRegion
set_option linter.unusedVariables false
set_option linter.unusedSimpArgs false
namespace Go.Sx
structure SpanV where
  lo : Int
  hi : Int
def SpanV.cs (x : SpanV) : List Chunk := [.one (.int .i64 x.lo), .one (.int .i64 x.hi)]
def SpanV.ok (x : SpanV) : Prop := 0 ≤ x.lo ∧ x.lo ≤ x.hi ∧ x.hi ≤ 100
def ShapeV.fit (x : ShapeV) : ShapeV := ⟨fitI 1 4 x.sets, fitI 1 4 x.ways⟩
theorem tmod_cases {n b : Int} (hb : 0 < b) : (n.tmod b = n % b ∨ (n.tmod b = n % b - b ∧ n % b ≠ 0)) ∧ 0 ≤ n % b ∧ n % b < b := by
  have h1 := Int.emod_nonneg n (show b ≠ 0 by omega)
  have h2 := Int.emod_lt_of_pos n hb
  refine ⟨?_, h1, h2⟩
  rw [Int.tmod_eq_emod]
  split
  · left; simp
  · rename_i h
    have h3 : ¬ b ∣ n := fun h' => h (.inr h')
    right
    have h4 : (b.natAbs : Int) = b := by omega
    rw [h4]
    exact ⟨rfl, fun h0 => h3 (Int.dvd_of_emod_eq_zero h0)⟩
theorem tmod_fit {n b : Int} (hb : 0 < b) : (n.tmod b + b).tmod b = n % b := by
  obtain ⟨h, h1, h2⟩ := tmod_cases (n := n) hb
  rw [Int.tmod_eq_emod_of_nonneg (by omega)]
  rcases h with h | ⟨h, _⟩
  · rw [h, Int.add_emod_right, Int.emod_eq_of_lt h1 h2]
  · rw [h, Int.sub_add_cancel, Int.emod_eq_of_lt h1 h2]
theorem PlanV.fit_wf {p : PlanV} (h : p.Wf) : p.fit.Wf := by
  obtain ⟨w1, w2, w3, w4, w5, w6, w7, w8, w9, w10, w11, w12, w13, w14, hk16, ht16⟩ := h
  have hs := p.fit_shaped
  have hl := PlanV.least_le hs
  have hsh := of_decide_eq_true hs
  have hl0 : 0 ≤ p.fit.banks * (p.fit.levels : Int) := Int.mul_nonneg (by omega) (by omega)
  have hm := Int.emod_nonneg p.met (show (4 : Int) ≠ 0 by omega)
  have hm' := Int.emod_lt_of_pos p.met (show (0 : Int) < 4 by omega)
  have hk := Int.emod_nonneg p.kind (show (2 : Int) ≠ 0 by omega)
  have hk' := Int.emod_lt_of_pos p.kind (show (0 : Int) < 2 by omega)
  have f : ∀ lo hi n, 0 ≤ lo → lo ≤ hi → hi ≤ 16 → I64 (fitI lo hi n) := fun lo hi n h0 h1 h2 => by
    have := fitI_mem n h1
    unfold I64
    omega
  have hmet : p.fit.met = p.fit.least + p.met % 4 := rfl
  have hmaj : 0 ≤ p.fit.major ∧ p.fit.major < 2 ^ 64 := by
    simp only [PlanV.fit, PlanV.fit0]
    split <;> omega
  refine ⟨f _ _ _ (by omega) (by omega) (by omega), f _ _ _ (by omega) (by omega) (by omega), f _ _ _ (by omega) (by omega) (by omega), f _ _ _ (by omega) (by omega) (by omega), f _ _ _ (by omega) (by omega) (by omega), f _ _ _ (by omega) (by omega) (by omega), hmaj,
    f _ _ _ (by omega) (by omega) (by omega), f _ _ _ (by omega) (by omega) (by omega), f _ _ _ (by omega) (by omega) (by omega), f _ _ _ (by omega) (by omega) (by omega), by rw [hmet]; unfold I64; omega, f _ _ _ (by omega) (by omega) (by omega), ?_, hk16, ht16⟩
  show I64 (p.kind % 2)
  unfold I64
  omega
theorem PlanV.fit_same {q : PlanV} (h : q.right = true) : q.fit.cores = q.cores ∧ q.fit.banks = q.banks ∧ q.fit.pages = q.pages ∧ q.fit.lines = q.lines ∧ q.fit.arity = q.arity ∧ q.fit.minor = q.minor ∧ q.fit.major = q.major ∧ q.fit.ns = q.ns ∧ q.fit.nw = q.nw ∧ q.fit.fs = q.fs ∧ q.fit.fw = q.fw ∧ q.fit.queue = q.queue ∧ q.fit.kind = q.kind := by
  unfold PlanV.right at h
  rw [Bool.and_eq_true] at h
  have h1 := of_decide_eq_true h.1
  have h2 := of_decide_eq_true h.2
  simp only [PlanV.fit, PlanV.fit0]
  refine ⟨fitI_same (by omega) (by omega), fitI_same (by omega) (by omega), fitI_same (by omega) (by omega), fitI_same (by omega) (by omega), fitI_same (by omega) (by omega), fitI_same (by omega) (by omega), by rw [if_neg (by omega)],
    fitI_same (by omega) (by omega), fitI_same (by omega) (by omega), fitI_same (by omega) (by omega), fitI_same (by omega) (by omega), fitI_same (by omega) (by omega), by omega⟩
theorem PlanV.fit_met (p : PlanV) : (p.fit0.least + p.met % 4 + 9223372036854775808) % 18446744073709551616 - 9223372036854775808 = p.fit0.least + p.met % 4 := by
  have hs : p.fit0.shaped = true := p.fit_shaped
  have hl := PlanV.least_le hs
  have hm := Int.emod_nonneg p.met (show (4 : Int) ≠ 0 by omega)
  have hm' := Int.emod_lt_of_pos p.met (show (0 : Int) < 4 by omega)
  have hsh := of_decide_eq_true hs
  have h0 : 0 ≤ p.fit0.banks * (p.fit0.levels : Int) := Int.mul_nonneg (by omega) (by omega)
  omega
theorem sum_all : [2, 3, 4].all (fun a => (List.range 17).all fun n => decide ((widF 6 a n).sum ≤ 31)) = true := by decide +kernel
theorem PlanV.ahead_all {p : PlanV} (h : p.shaped = true) : p.ahead p.levels ≤ 31 := by
  have hs := of_decide_eq_true h
  have h1 := List.all_eq_true.1 sum_all p.arity (by simp; omega)
  obtain ⟨k, hk⟩ := Int.eq_ofNat_of_zero_le (show 0 ≤ p.pages by omega)
  have h2 := List.all_eq_true.1 h1 k (by simp; omega)
  rw [← hk] at h2
  have h3 := of_decide_eq_true h2
  unfold PlanV.ahead
  rw [Int.toNat_natCast, List.take_of_length_le (by unfold PlanV.levels; omega)]
  unfold PlanV.widths
  rw [if_pos h]
  exact h3
theorem PlanV.right_met {p : PlanV} (h : p.right = true) : p.least ≤ p.met ∧ p.met ≤ 64 := by
  unfold PlanV.right at h
  rw [Bool.and_eq_true] at h
  have := of_decide_eq_true h.2
  omega
theorem bif_right {p : PlanV} : ((bif p.right then 0 else 4 : Int) != 0) = !p.right := by cases p.right <;> rfl
end Go.Sx
