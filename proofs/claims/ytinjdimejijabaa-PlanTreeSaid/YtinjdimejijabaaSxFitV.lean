/- Part of the proof: SxFitV. -/
import Derived.Test.YtinjdimejijabaaSxRegion
set_option linter.unusedVariables false
set_option linter.unusedSimpArgs false
namespace Go.Sx
structure SpanV where
  lo : Int
  hi : Int
def SpanV.cs (x : SpanV) : List Chunk := [.one (.int .i64 x.lo), .one (.int .i64 x.hi)]
def SpanV.ok (x : SpanV) : Prop := 0 <= x.lo /\ x.lo <= x.hi /\ x.hi <= 100
def ShapeV.fit (x : ShapeV) : ShapeV := ⟨ZbL 1 4 x.sets, ZbL 1 4 x.ways⟩
theorem Zh1 {n b : Int} (hb : 0 < b) : (n.tmod b = n % b ∨ (n.tmod b = n % b - b /\ n % b ≠ 0)) /\ 0 <= n % b /\ n % b < b := by
  have h1 := Int.emod_nonneg n (show b ≠ 0 by omega)
  have h2 := Int.emod_lt_of_pos n hb
  refine ⟨?_, h1, h2⟩
  rw [Int.tmod_eq_emod]
  split
  · left; simp
  · rename_i h
    have h3 : ¬ b ∣ n := fun h' => h (.inr h')
    right
    have h4 : (b.natAbs : Int) = b := by omega
    rw [h4]
    exact ⟨rfl, fun h0 => h3 (Int.dvd_of_emod_eq_zero h0)⟩
theorem PlanV.fit_met (p : PlanV) : (p.fit0.least + p.met % 4 + 9223372036854775808) % 18446744073709551616 - 9223372036854775808 = p.fit0.least + p.met % 4 := by
  have hs : p.fit0.shaped = true := p.fit_shaped
  have hl := PlanV.least_le hs
  have hm := Int.emod_nonneg p.met (show (4 : Int) ≠ 0 by omega)
  have hm' := Int.emod_lt_of_pos p.met (show (0 : Int) < 4 by omega)
  have hsh := of_decide_eq_true hs
  have h0 : 0 <= p.fit0.banks * (p.fit0.levels : Int) := Int.mul_nonneg (by omega) (by omega)
  omega
end Go.Sx
