/- Two parts of the proof. -/
import Derived.Test.YtggpebgigddogaaSxV1
import Derived.Test.YtggpebgigddogaaSxOpX
import Derived.Test.YtggpebgigddogaaSxG
import Derived.Test.YtggpebgigddogaaSxPut
set_option linter.unusedVariables false
set_option linter.unusedSimpArgs false
namespace Go.Sx
def sameC (m : Int) (xs : List Int) (k : Int) (ys : List Int) : Bool := m == k && xs == ys
end Go.Sx
namespace Go.Sx
end Go.Sx
namespace Go.Sx
namespace PlanV
def top (p : PlanV) : Int := 2 ^ p.minor.toNat - 1
def wrongC (p : PlanV) (m : Int) (xs : List Int) : Int := if p.right = true then (if p.major < m ∨ (xs.length : Int) ≠ p.lines ∨ xs.any (fun x => decide (x < 0) || decide (p.top < x)) = true then 1 else 0) else 4
end PlanV
end Go.Sx
namespace Go.Sx
namespace PlanV
theorem minor_le {p : PlanV} (h : p.right = true) : 0 <= p.minor /\ 1 <= p.minor /\ p.minor <= 8 := by
  unfold right at h
  rw [Bool.and_eq_true] at h
  have := of_decide_eq_true h.2
  omega
theorem pow_minor {p : PlanV} (h : p.right = true) : (2 : Int) <= 2 ^ p.minor.toNat /\ (2 : Int) ^ p.minor.toNat <= 256 := by
  have hm := minor_le h
  have : p.minor.toNat = 1 ∨ p.minor.toNat = 2 ∨ p.minor.toNat = 3 ∨ p.minor.toNat = 4 ∨ p.minor.toNat = 5 ∨ p.minor.toNat = 6 ∨ p.minor.toNat = 7 ∨ p.minor.toNat = 8 := by omega
  rcases this with e | e | e | e | e | e | e | e <;> rw [e] <;> decide
end PlanV
end Go.Sx

namespace Go.Sx
theorem bif04_t {b : Bool} (h : ((bif b then 0 else 4 : Int) != 0) = true) : b = false := by cases b; rfl; exact absurd h (by decide)
theorem bif04_f {b : Bool} (h : ((bif b then 0 else 4 : Int) != 0) = false) : b = true := by cases b; exact absurd h (by decide); rfl
namespace PlanV
def badM (p : PlanV) (x : Int) : Bool := decide (x < 0) || decide (p.top < x)
def idxM (p : PlanV) (xs : List Int) : Int := if xs.any (badM p) = true then (xs.findIdx (badM p) : Int) else -1
def nextE (p : PlanV) (m : Int) (xs : List Int) (s : Int) : Int :=
  if p.wrongC m xs ≠ 0 then p.wrongC m xs else if s < 0 ∨ p.lines <= s then 2 else if xs.getD s.toNat 0 = p.top /\ m = p.major then 21 else 0
def nextO (p : PlanV) (m : Int) (xs : List Int) (s : Int) : Bool := decide (p.nextE m xs s = 0) && decide (xs.getD s.toNat 0 = p.top)
def nextM (p : PlanV) (m : Int) (xs : List Int) (s : Int) : Int := if p.nextE m xs s ≠ 0 then 0 else if p.nextO m xs s = true then m + 1 else m
def nextL (p : PlanV) (m : Int) (xs : List Int) (s : Int) : List Int := if p.nextE m xs s ≠ 0 then [] else if p.nextO m xs s = true then List.replicate p.lines.toNat 0 else xs.set s.toNat (xs.getD s.toNat 0 + 1)
theorem idxM_none {p : PlanV} {xs : List Int} (h : xs.any (badM p) = false) : p.idxM xs = -1 := by unfold idxM; rw [if_neg (by rw [h]; decide)]
theorem idxM_at {p : PlanV} {xs : List Int} {i : Nat} (hi : i < xs.length) (ha : (xs.take i).any (badM p) = false) (hb : badM p (xs.getD i 0) = true) : p.idxM xs = (i : Int) := by
  have hg : xs.getD i 0 = xs[i] := by rw [List.getD_eq_getElem?_getD, List.getElem?_eq_getElem hi]; rfl
  rw [hg] at hb
  have h1 : xs.any (badM p) = true := List.any_eq_true.2 ⟨_, List.getElem_mem hi, hb⟩
  unfold idxM
  rw [if_pos h1]
  congr 1
  refine (List.findIdx_eq hi).2 ⟨hb, fun j hj => ?_⟩
  have h2 := List.any_eq_false.1 ha (xs[j]'(by omega)) (by
    rw [List.mem_take_iff_getElem]
    exact ⟨j, by omega, rfl⟩)
  simpa using h2
theorem idxM_any {p : PlanV} {xs : List Int} : decide (0 <= p.idxM xs) = xs.any (badM p) := by
  unfold idxM
  cases h : xs.any (badM p) with
  | true => rw [if_pos rfl]; exact decide_eq_true (by omega)
  | false => rw [if_neg (by decide)]; rfl
theorem right_facts {p : PlanV} (h : p.right = true) : 1 <= p.lines /\ p.lines <= 8 /\ 1 <= p.minor /\ p.minor <= 8 /\ p.major <= 4294967296 /\ 1 <= p.pages /\ p.pages <= 16 := by
  unfold right at h
  rw [Bool.and_eq_true] at h
  have h1 := of_decide_eq_true h.2
  have h2 := h.1
  unfold shaped at h2
  have h2 := of_decide_eq_true h2
  omega
theorem wrongC_zero {p : PlanV} {m : Int} {xs : List Int} (h : p.wrongC m xs = 0) : p.right = true /\ m <= p.major /\ (xs.length : Int) = p.lines /\ ∀ i, i < xs.length -> 0 <= xs.getD i 0 /\ xs.getD i 0 <= p.top := by
  unfold wrongC at h
  split at h
  · rename_i hr
    split at h
    · omega
    · rename_i hn
      simp only [not_or, Decidable.not_not] at hn
      refine ⟨hr, by omega, hn.2.1, fun i hi => ?_⟩
      have h1 := hn.2.2
      rw [Bool.not_eq_true] at h1
      have := List.any_eq_false.1 h1 (xs[i]) (List.getElem_mem hi)
      rw [List.getD_eq_getElem?_getD, List.getElem?_eq_getElem hi]
      simp only [Option.getD_some]
      simp only [Bool.or_eq_true, decide_eq_true_eq, not_or] at this
      omega
  · omega
theorem next_err {p : PlanV} {m : Int} {xs : List Int} {s e : Int} (h : p.nextE m xs s = e) (he : e ≠ 0) : p.nextM m xs s = 0 /\ p.nextL m xs s = [] /\ p.nextO m xs s = false := by
  have h0 : p.nextE m xs s ≠ 0 := by rw [h]; exact he
  refine ⟨by unfold nextM; rw [if_pos h0], by unfold nextL; rw [if_pos h0], ?_⟩
  unfold nextO
  rw [decide_eq_false h0, Bool.false_and]
theorem nextE_wrong {p : PlanV} {m : Int} {xs : List Int} {s : Int} (h : p.wrongC m xs ≠ 0) : p.nextE m xs s = p.wrongC m xs := by unfold nextE; rw [if_pos h]
theorem nextE_slot {p : PlanV} {m : Int} {xs : List Int} {s : Int} (h : p.wrongC m xs = 0) (hs : s < 0 ∨ p.lines <= s) : p.nextE m xs s = 2 := by unfold nextE; rw [if_neg (by omega), if_pos hs]
theorem nextE_end {p : PlanV} {m : Int} {xs : List Int} {s : Int} (h : p.wrongC m xs = 0) (hs : ¬ (s < 0 ∨ p.lines <= s)) (ht : xs.getD s.toNat 0 = p.top) (hm : m = p.major) : p.nextE m xs s = 21 := by
  unfold nextE; rw [if_neg (by omega), if_neg hs, if_pos ⟨ht, hm⟩]
theorem next_over {p : PlanV} {m : Int} {xs : List Int} {s : Int} (h : p.wrongC m xs = 0) (hs : ¬ (s < 0 ∨ p.lines <= s)) (ht : xs.getD s.toNat 0 = p.top) (hm : m ≠ p.major) :
    p.nextE m xs s = 0 /\ p.nextO m xs s = true /\ p.nextM m xs s = m + 1 /\ p.nextL m xs s = List.replicate p.lines.toNat 0 := by
  have h0 : p.nextE m xs s = 0 := by unfold nextE; rw [if_neg (by omega), if_neg hs, if_neg (fun h => hm h.2)]
  have h1 : p.nextO m xs s = true := by unfold nextO; rw [decide_eq_true h0, decide_eq_true ht]; rfl
  refine ⟨h0, h1, ?_, ?_⟩
  · unfold nextM; rw [if_neg (by omega), if_pos h1]
  · unfold nextL; rw [if_neg (by omega), if_pos h1]
theorem next_on {p : PlanV} {m : Int} {xs : List Int} {s : Int} (h : p.wrongC m xs = 0) (hs : ¬ (s < 0 ∨ p.lines <= s)) (ht : xs.getD s.toNat 0 ≠ p.top) :
    p.nextE m xs s = 0 /\ p.nextO m xs s = false /\ p.nextM m xs s = m /\ p.nextL m xs s = xs.set s.toNat (xs.getD s.toNat 0 + 1) := by
  have h0 : p.nextE m xs s = 0 := by unfold nextE; rw [if_neg (by omega), if_neg hs, if_neg (fun h => ht h.1)]
  have h1 : p.nextO m xs s = false := by unfold nextO; rw [decide_eq_false ht, Bool.and_false]
  refine ⟨h0, h1, ?_, ?_⟩
  · unfold nextM; rw [if_neg (by omega), if_neg (by rw [h1]; decide)]
  · unfold nextL; rw [if_neg (by omega), if_neg (by rw [h1]; decide)]
def cntF (p : PlanV) (m : Int) (xs : List Int) : Nat -> List Int
  | 0 => numB m 8 ++ List.replicate 24 0
  | k + 1 => putL (cntF p m xs k) (64 + k * p.minor) p.minor (xs.getD k 0)
def cntL (p : PlanV) (m : Int) (xs : List Int) : List Int := if p.wrongC m xs = 0 then p.cntF m xs xs.length else List.replicate 32 0
theorem cntF_length (p : PlanV) (m : Int) (xs : List Int) : ∀ k, (p.cntF m xs k).length = 32
  | 0 => by simp [cntF, numB_length]
  | k + 1 => by rw [cntF, putL_length, cntF_length p m xs k]
theorem cntF_byt (p : PlanV) (m : Int) (xs : List Int) : ∀ k, Byt (p.cntF m xs k)
  | 0 => fun x hx => by
    rw [cntF, List.mem_append] at hx
    rcases hx with hx | hx
    · exact numB_byt m 8 x hx
    · have := List.eq_of_mem_replicate hx; omega
  | k + 1 => by rw [cntF]; exact putL_byt (cntF_byt p m xs k)
end PlanV
abbrev badM := PlanV.badM
abbrev idxM := PlanV.idxM
end Go.Sx
