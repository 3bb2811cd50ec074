/- Bits that are put and got one after the other, by numbers. -/
import Derived.Test.YtefmjmghkedciaaSxPut
set_option linter.unusedVariables false
set_option linter.unusedSimpArgs false
namespace Go.Sx
theorem takeAll' {l : List Int} {n : Nat} (h : l.length = n) : List.take n l = l := List.take_of_length_le (by omega)
theorem p2tab {c : Nat} (h : c < 8) : ([1, 2, 4, 8, 16, 32, 64, 128] : List Int).getD c 0 = 2 ^ c := by
  have : c = 0 ∨ c = 1 ∨ c = 2 ∨ c = 3 ∨ c = 4 ∨ c = 5 ∨ c = 6 ∨ c = 7 := by omega
  rcases this with rfl | rfl | rfl | rfl | rfl | rfl | rfl | rfl <;> rfl
def stepOk (x b c : Nat) : Bool :=
  (if bit8 x b = 1 then let y := IntKind.u8.wrap ((x : Int) - 2 ^ b); decide (0 ≤ y ∧ y < 256) && decide (bit8 y c = if c = b then 0 else bit8 x c) else true) &&
  (if bit8 x b = 0 then let y := IntKind.u8.wrap ((x : Int) + 2 ^ b); decide (0 ≤ y ∧ y < 256) && decide (bit8 y c = if c = b then 1 else bit8 x c) else true)
theorem step_all : (List.range 256).all (fun x => (List.range 8).all fun b => (List.range 8).all fun c => stepOk x b c) = true := by decide +kernel
theorem step8 {x : Int} {b : Nat} (h : 0 ≤ x ∧ x < 256) (hb : b < 8) :
    (bit8 x b = 1 → (0 ≤ IntKind.u8.wrap (x - 2 ^ b) ∧ IntKind.u8.wrap (x - 2 ^ b) < 256) ∧ ∀ c, c < 8 → bit8 (IntKind.u8.wrap (x - 2 ^ b)) c = if c = b then 0 else bit8 x c) ∧
    (bit8 x b = 0 → (0 ≤ IntKind.u8.wrap (x + 2 ^ b) ∧ IntKind.u8.wrap (x + 2 ^ b) < 256) ∧ ∀ c, c < 8 → bit8 (IntKind.u8.wrap (x + 2 ^ b)) c = if c = b then 1 else bit8 x c) := by
  obtain ⟨n, rfl⟩ := Int.eq_ofNat_of_zero_le h.1
  have := List.all_eq_true.1 step_all n (by simp; omega)
  have := List.all_eq_true.1 this b (by simp; omega)
  have hc : ∀ c, c < 8 → stepOk n b c = true := fun c hc => List.all_eq_true.1 this c (by simp; omega)
  simp only [stepOk, Bool.and_eq_true] at hc
  constructor
  · intro h1
    simp only [h1, if_true, Bool.and_eq_true, decide_eq_true_eq] at hc
    exact ⟨(hc 0 (by omega)).1.1, fun c h => (hc c h).1.2⟩
  · intro h1
    simp only [h1, if_true, Bool.and_eq_true, decide_eq_true_eq] at hc
    exact ⟨(hc 0 (by omega)).2.1, fun c h => (hc c h).2.2⟩
theorem getDb {xs : List Int} (hb : Byt xs) (i : Nat) : 0 ≤ xs.getD i 0 ∧ xs.getD i 0 < 256 := by
  by_cases h : i < xs.length
  · rw [List.getD_eq_getElem?_getD, List.getElem?_eq_getElem h]; exact hb _ (List.getElem_mem h)
  · rw [getD_out (by omega)]; omega
theorem bit_set {xs : List Int} {K : Nat} {y w : Int} (hb : Byt xs) (hk : K < 8 * xs.length) (hy : 0 ≤ y ∧ y < 256) (h : ∀ c, c < 8 → bit8 y c = if c = K % 8 then w else bit8 (xs.getD (K / 8) 0) c) :
    Byt (xs.set (K / 8) y) ∧ ∀ j, bitB (xs.set (K / 8) y) j = if j = K then w else bitB xs j := by
  refine ⟨fun z hz => ?_, fun j => ?_⟩
  · rcases List.mem_or_eq_of_mem_set hz with h1 | h1
    · exact hb z h1
    · rw [h1]; exact hy
  · unfold bitB
    by_cases hj : j / 8 = K / 8
    · rw [hj]
      have : (xs.set (K / 8) y).getD (K / 8) 0 = y := by rw [List.getD_eq_getElem?_getD, List.getElem?_set_self (by omega)]; rfl
      rw [this, h _ (Nat.mod_lt _ (by omega))]
      by_cases h2 : j = K
      · rw [if_pos (by omega), if_pos h2]
      · rw [if_neg (by omega), if_neg h2]
    · have : (xs.set (K / 8) y).getD (j / 8) 0 = xs.getD (j / 8) 0 := by rw [List.getD_eq_getElem?_getD, List.getElem?_set_ne (by omega), ← List.getD_eq_getElem?_getD]
      rw [this, if_neg (fun e => hj (by rw [e]))]
/-- So far: the first bits are put. -/
def PutI (b : List Int) (a : Nat) (v : Int) (i : Nat) (h : List Int) : Prop := h.length = b.length ∧ Byt h ∧ ∀ j, bitB h j = bitPut b a i v j
theorem putI_zero {b : List Int} {a : Nat} {v : Int} (hb : Byt b) : PutI b a v 0 b := ⟨rfl, hb, fun j => by unfold bitPut; rw [if_neg (by omega)]⟩
theorem bitPut_succ (b : List Int) (a i : Nat) (v : Int) (j : Nat) : bitPut b a (i + 1) v j = if j = a + i then v / 2 ^ i % 2 else bitPut b a i v j := by
  unfold bitPut
  by_cases h : j = a + i
  · rw [if_pos (by omega), if_pos h, h, Nat.add_sub_cancel_left]
  · rw [if_neg h]
    by_cases h2 : a ≤ j ∧ j < a + i
    · rw [if_pos (by omega), if_pos h2]
    · rw [if_neg (by omega), if_neg h2]
theorem putI_step {b h : List Int} {a i K : Nat} {v w : Int} (hI : PutI b a v i h) (hK : K = a + i) (hw : w = v / 2 ^ i % 2) (hk : K < 8 * b.length) :
    (bitB h K = 1 → w = 0 → PutI b a v (i + 1) (h.set (K / 8) (IntKind.u8.wrap (h.getD (K / 8) 0 - 2 ^ (K % 8))))) ∧
    (bitB h K = 0 → w = 1 → PutI b a v (i + 1) (h.set (K / 8) (IntKind.u8.wrap (h.getD (K / 8) 0 + 2 ^ (K % 8))))) ∧
    (bitB h K = w → PutI b a v (i + 1) h) := by
  obtain ⟨h1, h2, h3⟩ := hI
  have s := step8 (getDb h2 (K / 8)) (Nat.mod_lt K (by omega : 8 > 0))
  have hk' : K < 8 * h.length := by rw [h1]; exact hk
  refine ⟨fun g e => ?_, fun g e => ?_, fun g => ⟨h1, h2, fun j => ?_⟩⟩
  · obtain ⟨s1, s2⟩ := s.1 g
    obtain ⟨t1, t2⟩ := bit_set h2 hk' s1 s2
    refine ⟨by rw [List.length_set, h1], t1, fun j => ?_⟩
    rw [t2, bitPut_succ, ← hK, ← hw, e, h3]
  · obtain ⟨s1, s2⟩ := s.2 g
    obtain ⟨t1, t2⟩ := bit_set h2 hk' s1 s2
    refine ⟨by rw [List.length_set, h1], t1, fun j => ?_⟩
    rw [t2, bitPut_succ, ← hK, ← hw, e, h3]
  · rw [bitPut_succ, ← hK, ← hw]
    by_cases hj : j = K
    · rw [if_pos hj, hj]; exact g
    · rw [if_neg hj, h3]
theorem putI_end {b h : List Int} {a n : Nat} {v : Int} (hI : PutI b a v n h) (hf : a + n ≤ 8 * b.length) : h = setB b a n v := setB_uniq hf hI.1 hI.2.1 hI.2.2
theorem getB_cons (xs : List Int) (a : Nat) : ∀ m, getB xs a (m + 1) = bitB xs a + 2 * getB xs (a + 1) m
  | 0 => by simp [getB]
  | m + 1 => by
    rw [getB, getB_cons xs a m, getB, show a + 1 + m = a + (m + 1) by omega, Int.pow_succ]
    have : bitB xs (a + (m + 1)) * (2 ^ m * 2) = 2 * (bitB xs (a + (m + 1)) * 2 ^ m) := by rw [← Int.mul_assoc]; omega
    omega
theorem half_u64 {v : Int} {i : Nat} (h : 0 ≤ v ∧ v < 2 ^ 64) : (v / 2 ^ i).tdiv 2 % 18446744073709551616 = v / 2 ^ (i + 1) ∧ 0 ≤ v / 2 ^ i ∧ v / 2 ^ i < 2 ^ 64 := by
  have h0 : 0 ≤ v / 2 ^ i := Int.ediv_nonneg h.1 (Int.le_of_lt (Int.pow_pos (by omega)))
  have h1 : v / 2 ^ i ≤ v := Int.ediv_le_self _ h.1
  refine ⟨?_, h0, by omega⟩
  rw [Int.tdiv_eq_ediv_of_nonneg h0, Int.pow_succ, ← Int.ediv_ediv_of_nonneg (Int.le_of_lt (Int.pow_pos (by omega)))]
  omega
theorem thereB_iff {m : Nat} {a n : Int} : thereB m a n = true ↔ 0 ≤ a ∧ 0 ≤ n ∧ n ≤ 64 ∧ n ≤ 8 * m ∧ a ≤ 8 * m - n := by unfold thereB; exact decide_eq_true_iff
end Go.Sx
