/- From the first address to the last one, in plain Lean. -/
import Derived.Test.YtlmcdbgcbmjilaaSxRegion4
set_option linter.unusedVariables false
set_option linter.unusedSimpArgs false
namespace Go.Sx
namespace PlanV
theorem item_ex (p : PlanV) : ∀ (m : Nat) (k : Int), 0 ≤ k → k < p.ahead m → ∃ l i : Nat, l < m ∧ (i : Int) < p.width l ∧ p.ahead l + i = k
  | 0, k, h0, h1 => by rw [show ((0 : Nat) : Int) = 0 from rfl, ahead_zero] at h1; omega
  | m + 1, k, h0, h1 => by
    by_cases h : k < p.ahead m
    · obtain ⟨l, i, a1, a2, a3⟩ := item_ex p m k h0 h
      exact ⟨l, i, by omega, a2, a3⟩
    · rw [Int.natCast_add, Int.natCast_one, ahead_succ] at h1
      exact ⟨m, (k - p.ahead m).toNat, by omega, by omega, by omega⟩
/-- One thing stands at each address. -/
theorem place_ex {p : PlanV} {a : Int} (hr : p.right = true) (h0 : 0 ≤ a) (h1 : a < p.size) : ∃ q, q ∈ p.parts ∧ placeIn p.parts a = some q ∧ pAt q ≤ a ∧ a < pAt q + pN q := by
  have key : ∀ q, q ∈ p.parts → pAt q ≤ a → a < pAt q + pN q → ∃ q, q ∈ p.parts ∧ placeIn p.parts a = some q ∧ pAt q ≤ a ∧ a < pAt q + pN q := fun q h2 h3 h4 => ⟨q, h2, placeIn_eq h2 h3 h4, h3, h4⟩
  have hsz : p.size = p.itemsAt + p.ahead p.levels * 32 := if_pos hr
  have hit : p.itemsAt = p.all * 40 := rfl
  by_cases g1 : a < p.all * 32
  · obtain ⟨i, hi⟩ := Int.eq_ofNat_of_zero_le (show 0 ≤ a / 32 by omega)
    exact key _ (mem_D hr (i := i) (by omega)) (by simp only [pAt, partD]; omega) (by simp only [pAt, pN, partD]; omega)
  · by_cases g2 : a < p.itemsAt
    · obtain ⟨i, hi⟩ := Int.eq_ofNat_of_zero_le (show 0 ≤ (a - p.all * 32) / 8 by omega)
      exact key _ (mem_T hr (i := i) (by omega)) (by simp only [pAt, partT]; omega) (by simp only [pAt, pN, partT]; omega)
    · obtain ⟨l, i, a1, a2, a3⟩ := item_ex p p.levels ((a - p.itemsAt) / 32) (by omega) (by omega)
      exact key _ (mem_I hr a1 a2) (by simp only [pAt, partI]; omega) (by simp only [pAt, pN, partI]; omega)
theorem place_of {p : PlanV} {a : Int} {q : PartT} (h : placeIn p.parts a = some q) : p.placeB a = true ∧ p.placeOf a = ⟨q.1, q.2.1, q.2.2.1, q.2.2.2.1, a - pAt q⟩ := by
  unfold placeB placeOf
  rw [h]
  exact ⟨rfl, rfl⟩
/-- What stands at an address begins where its own place says. -/
theorem place_back {p : PlanV} {a : Int} (hr : p.right = true) (h0 : 0 ≤ a) (h1 : a < p.size) :
    p.placeB a = true ∧ 0 ≤ (p.placeOf a).poff ∧ (p.placeOf a).poff ≤ a ∧ (((p.placeOf a).pkind = 1 ∧ p.lineB (p.placeOf a).pline = true ∧ p.dataAt (p.placeOf a).pline = a - (p.placeOf a).poff) ∨
      ((p.placeOf a).pkind = 2 ∧ p.lineB (p.placeOf a).pline = true ∧ p.tagAt (p.placeOf a).pline = a - (p.placeOf a).poff) ∨
      ((p.placeOf a).pkind = 3 ∧ p.itemB ⟨(p.placeOf a).plevel, (p.placeOf a).pindex⟩ = true ∧ p.itemAt ⟨(p.placeOf a).plevel, (p.placeOf a).pindex⟩ = a - (p.placeOf a).poff)) := by
  obtain ⟨q, hq, hp, g1, g2⟩ := place_ex hr h0 h1
  obtain ⟨e1, e2⟩ := place_of hp
  have hpa := parts_at hq
  rw [e2]
  refine ⟨e1, by show 0 ≤ a - pAt q; omega, by show a - pAt q ≤ a; omega, ?_⟩
  obtain ⟨_, cq⟩ := mem_parts hq
  rcases cq with ⟨i, hi, rfl⟩ | ⟨i, hi, rfl⟩ | ⟨l, i, hl, hi, rfl⟩
  · left
    have hb : p.lineB i = true := by unfold lineB; simp only [Bool.and_eq_true, decide_eq_true_eq]; exact ⟨⟨hr, by omega⟩, hi⟩
    have e : p.dataAt i = i * 32 := if_pos hb
    refine ⟨rfl, hb, ?_⟩
    show p.dataAt i = a - (a - (i : Int) * 32)
    omega
  · right; left
    have hb : p.lineB i = true := by unfold lineB; simp only [Bool.and_eq_true, decide_eq_true_eq]; exact ⟨⟨hr, by omega⟩, hi⟩
    have e : p.tagAt i = p.all * 32 + i * 8 := if_pos hb
    refine ⟨rfl, hb, ?_⟩
    show p.tagAt i = a - (a - (p.all * 32 + (i : Int) * 8))
    omega
  · right; right
    have hb := item_of hr hi
    have e := itemAt_eq hb
    simp only at e
    refine ⟨rfl, hb, ?_⟩
    show p.itemAt ⟨l, i⟩ = a - (a - (p.itemsAt + p.ahead l * 32 + (i : Int) * 32))
    omega
/-- The address ahead is of the same thing, or a new one begins. -/
theorem place_next {p : PlanV} {a : Int} (hr : p.right = true) (h0 : 0 < a) (h1 : a < p.size) :
    (((p.placeOf a).pkind = (p.placeOf (a - 1)).pkind ∧ (p.placeOf a).pline = (p.placeOf (a - 1)).pline ∧ (p.placeOf a).plevel = (p.placeOf (a - 1)).plevel ∧ (p.placeOf a).pindex = (p.placeOf (a - 1)).pindex) ↔ (p.placeOf a).poff ≠ 0) := by
  obtain ⟨q, hq, hp, g1, g2⟩ := place_ex hr (show 0 ≤ a by omega) h1
  obtain ⟨q', hq', hp', g1', g2'⟩ := place_ex hr (show 0 ≤ a - 1 by omega) (show a - 1 < p.size by omega)
  rw [(place_of hp).2, (place_of hp').2]
  constructor
  · rintro ⟨e1, e2, e3, e4⟩ he
    have he : a - pAt q = 0 := he
    have z : ∀ r, r ∈ p.parts → (pPlace r).poff = 0 := fun r hr' => by
      obtain ⟨_, cr⟩ := mem_parts hr'
      rcases cr with ⟨i, hi, rfl⟩ | ⟨i, hi, rfl⟩ | ⟨l, i, hl, hi, rfl⟩ <;> rfl
    have heq : eqPlace (pPlace q) (pPlace q') = true := eqPlace_iff.2 ⟨e1, e2, e3, e4, by rw [z q hq, z q' hq']⟩
    have h2 := findIn_eq hq heq
    have h3 := findIn_eq hq' (eqPlace_iff.2 ⟨rfl, rfl, rfl, rfl, rfl⟩ : eqPlace (pPlace q') (pPlace q') = true)
    rw [h2] at h3
    cases h3
    omega
  · intro he
    have he : a - pAt q ≠ 0 := he
    have := placeIn_eq (a := a - 1) hq (by omega) (by omega)
    rw [hp'] at this
    cases this
    exact ⟨rfl, rfl, rfl, rfl⟩
theorem size_8 (p : PlanV) : p.size % 8 = 0 := by
  unfold size
  split
  · have hit : p.itemsAt = p.all * 40 := rfl
    omega
  · rfl
theorem size_le (p : PlanV) : 0 ≤ p.size ∧ p.size ≤ 10000 := by
  unfold size
  split
  · have hit : p.itemsAt = p.all * 40 := rfl
    have := p.all_le
    have := p.ahead_le p.levels
    have := p.levels_le
    omega
  · omega
/-- A step of the walk over all addresses finds nothing wrong. -/
theorem all_step {p : PlanV} {a k0 k1 k2 k3 v8 : Int} (hr : p.right = true) (h0 : 0 ≤ a) (h1 : a < p.size)
    (hl : a = 0 ∨ ((p.placeOf (a - 1)).pkind = k0 ∧ (p.placeOf (a - 1)).pline = k1 ∧ (p.placeOf (a - 1)).plevel = k2 ∧ (p.placeOf (a - 1)).pindex = k3)) (hv : v8 = a - (p.placeOf a).poff) :
    (!true || IntKind.i64.wrap (v8 + (p.placeOf a).poff) != a ||
      decide (0 < a) && ((p.placeOf a).pkind == k0 && ((p.placeOf a).pline == k1 && ((p.placeOf a).plevel == k2 && ((p.placeOf a).pindex == k3 && ((0 : Int) == 0 && true))))) && (p.placeOf a).poff == 0 ||
      !((p.placeOf a).pkind == k0 && ((p.placeOf a).pline == k1 && ((p.placeOf a).plevel == k2 && ((p.placeOf a).pindex == k3 && ((0 : Int) == 0 && true))))) && (p.placeOf a).poff != 0 && decide (0 < a)) = false := by
  have hsz := p.size_le
  have hw : IntKind.i64.wrap (v8 + (p.placeOf a).poff) = a := by
    rw [hv, show a - (p.placeOf a).poff + (p.placeOf a).poff = a by omega, IntKind.wrap_i64]; omega
  have hS : ((p.placeOf a).pkind == k0 && ((p.placeOf a).pline == k1 && ((p.placeOf a).plevel == k2 && ((p.placeOf a).pindex == k3 && ((0 : Int) == 0 && true))))) = true ↔ ((p.placeOf a).pkind = k0 ∧ (p.placeOf a).pline = k1 ∧ (p.placeOf a).plevel = k2 ∧ (p.placeOf a).pindex = k3) := by
    simp only [Bool.and_eq_true, beq_iff_eq, beq_self_eq_true, and_true]
  generalize ((p.placeOf a).pkind == k0 && ((p.placeOf a).pline == k1 && ((p.placeOf a).plevel == k2 && ((p.placeOf a).pindex == k3 && ((0 : Int) == 0 && true))))) = S at hS ⊢
  rw [hw]
  rcases hl with hl | ⟨rfl, rfl, rfl, rfl⟩
  · subst hl
    cases S <;> simp
  · by_cases hp : 0 < a
    · have hn := place_next hr hp h1
      rw [hn] at hS
      cases S with
      | true => have := hS.1 rfl; simp [this]
      | false =>
        have : (p.placeOf a).poff = 0 := by
          by_cases hz : (p.placeOf a).poff = 0
          · exact hz
          · have := hS.2 hz; cases this
        simp [this]
    · rw [decide_eq_false hp]
      cases S <;> simp
end PlanV
end Go.Sx
