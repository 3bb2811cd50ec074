/- Part of the proof: SxCodeK. -/
import Derived.Test.YtggpebgigddogaaSxCodeO
import Derived.Test.YtggpebgigddogaaSxPutL
set_option linter.unusedVariables false
set_option linter.unusedSimpArgs false
namespace Go.Sx
namespace PlanV
def minF (p : PlanV) (b : List Int) (k : Nat) : List Int := (List.range k).map fun i => getB b (64 + i * p.minor.toNat) p.minor.toNat
def minL (p : PlanV) (b : List Int) : List Int := p.minF b p.lines.toNat
theorem minF_succ (p : PlanV) (b : List Int) (k : Nat) : p.minF b (k + 1) = p.minF b k ++ [getB b (64 + k * p.minor.toNat) p.minor.toNat] := by
  unfold minF; rw [List.range_succ, List.map_append]; rfl
theorem minF_length (p : PlanV) (b : List Int) (k : Nat) : (p.minF b k).length = k := by unfold minF; simp
theorem got_at {p : PlanV} (h : p.right = true) {b : List Int} (hb : b.length = 32) {v : Int} (h0 : 0 <= v) (h1 : v < p.lines) :
    IntKind.i64.wrap (64 + IntKind.i64.wrap (v * p.minor)) = ((64 + v.toNat * p.minor.toNat : Nat) : Int) /\ (64 + v.toNat * p.minor.toNat + p.minor.toNat <= 256) /\ gotL b ((64 + v.toNat * p.minor.toNat : Nat) : Int) p.minor = getB b (64 + v.toNat * p.minor.toNat) p.minor.toNat := by
  have hf := right_facts h
  have hm : v.toNat * p.minor.toNat + p.minor.toNat <= 64 := by
    have : (v.toNat + 1) * p.minor.toNat <= 8 * 8 := Nat.mul_le_mul (by omega) (by omega)
    rw [Nat.add_mul, Nat.one_mul] at this
    exact this
  have hc : v * p.minor = ((v.toNat * p.minor.toNat : Nat) : Int) := by
    rw [Int.natCast_mul, show ((p.minor.toNat : Nat) : Int) = p.minor by omega, show ((v.toNat : Nat) : Int) = v by omega]
  have w1 : IntKind.i64.wrap (v * p.minor) = ((v.toNat * p.minor.toNat : Nat) : Int) := by rw [hc, wi64]; omega
  refine ⟨?_, by omega, ?_⟩
  · rw [w1, wi64] <;> omega
  · unfold gotL
    rw [if_pos]
    · rw [Int.toNat_natCast]
    · rw [hb]; exact thereB_iff.2 (by omega)
theorem min_lt {p : PlanV} (h : p.right = true) (b : List Int) (a : Nat) : 0 <= getB b a p.minor.toNat /\ getB b a p.minor.toNat <= p.top /\ getB b a p.minor.toNat < 256 := by
  have hf := right_facts h
  have := getB_lt b a p.minor.toNat
  have h2 : (2 : Int) ^ p.minor.toNat <= 2 ^ 8 := by exact_mod_cast Nat.pow_le_pow_right (n := 2) (by omega) (show p.minor.toNat <= 8 by omega)
  unfold top
  omega
theorem minF_get {p : PlanV} {b : List Int} {k i : Nat} (h : i < k) : (p.minF b k).getD i 0 = getB b (64 + i * p.minor.toNat) p.minor.toNat := by
  unfold minF
  rw [List.getD_eq_getElem?_getD, List.getElem?_map, List.getElem?_range h]; rfl
theorem back {p : PlanV} {m : Int} {xs : List Int} (hw : p.wrongC m xs = 0) (hm : 0 <= m) (hm2 : m < 2 ^ 64) : readB (List.take 8 (p.cntL m xs)) = m /\ p.minL (p.cntL m xs) = xs := by
  obtain ⟨hr, hj, hl, hx⟩ := wrongC_zero hw
  obtain ⟨a1, a2⟩ := cnt_get hw _ (Nat.le_refl _)
  have hf := right_facts hr
  have e : p.cntL m xs = p.cntF m xs xs.length := by unfold cntL; rw [if_pos hw]
  rw [e, a1, readB_numB]
  refine ⟨Int.emod_eq_of_lt hm (by omega), ?_⟩
  unfold minL
  have ll : p.lines.toNat = xs.length := by omega
  rw [ll]
  apply List.ext_getElem (by rw [minF_length])
  intro i h1 h2
  have h3 := minF_get (p := p) (b := p.cntF m xs xs.length) (k := xs.length) (i := i) h2
  rw [a2 i h2] at h3
  simpa [List.getD_eq_getElem?_getD, List.getElem?_eq_getElem h1, List.getElem?_eq_getElem h2] using h3
theorem cntL_ok (p : PlanV) (m : Int) (xs : List Int) : LineOk (p.cntL m xs) := by
  unfold cntL
  split
  · exact ⟨cntF_length _ _ _ _, cntF_byt _ _ _ _⟩
  · exact ⟨by simp, fun x hx => by have := List.eq_of_mem_replicate hx; omega⟩
end PlanV
end Go.Sx
