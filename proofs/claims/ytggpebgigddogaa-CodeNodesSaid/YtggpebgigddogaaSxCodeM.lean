/- Children's tags, messages. -/
import Derived.Test.YtggpebgigddogaaSxCodeT
import Derived.Test.YtggpebgigddogaaSxWordP
set_option linter.unusedVariables false
set_option linter.unusedSimpArgs false
namespace Go.Sx
theorem win_same {b ys : List Int} {k : Nat} (hb : k + ys.length ≤ b.length) : ((putN b k ys).drop k).take ys.length = ys := by
  unfold putN
  rw [List.append_assoc, List.drop_left' (by rw [List.length_take]; omega), List.take_left]
theorem win_other {b ys : List Int} {k j n : Nat} (hb : k + ys.length ≤ b.length) (h : j + n ≤ k ∨ k + ys.length ≤ j) : ((putN b k ys).drop j).take n = (b.drop j).take n := by
  apply List.ext_getElem?
  intro i
  by_cases hi : i < n
  · rw [List.getElem?_take_of_lt hi, List.getElem?_take_of_lt hi, List.getElem?_drop, List.getElem?_drop]
    unfold putN
    rcases h with h | h
    · rw [List.append_assoc, List.getElem?_append_left (by rw [List.length_take]; omega), List.getElem?_take_of_lt (by omega)]
    · rw [List.getElem?_append_right (by rw [List.length_append, List.length_take]; omega), List.getElem?_drop, List.length_append, List.length_take]
      congr 1
      omega
  · rw [List.getElem?_eq_none (by rw [List.length_take]; omega), List.getElem?_eq_none (by rw [List.length_take]; omega)]
theorem tag_same {b : List Int} {c t : Int} (hb : b.length = 32) (hc : 0 ≤ c ∧ c ≤ 3) (ht : 0 ≤ t) (ht2 : t < 2 ^ 64) : tagL (putN b (8 * c).toNat (numB t 8)) c = t := by
  unfold tagL
  have h := win_same (b := b) (ys := numB t 8) (k := (8 * c).toNat) (by rw [numB_length]; omega)
  rw [numB_length] at h
  rw [h, readB_numB, Int.emod_eq_of_lt ht (by omega)]
theorem tag_other {b : List Int} {c o t : Int} (hb : b.length = 32) (hc : 0 ≤ c ∧ c ≤ 3) (ho : 0 ≤ o ∧ o ≤ 3) (hne : o ≠ c) : tagL (putN b (8 * c).toNat (numB t 8)) o = tagL b o := by
  unfold tagL
  rw [win_other (by rw [numB_length]; omega) (by rw [numB_length]; omega)]
theorem put_ok {b : List Int} {c t : Int} (hb : LineOk b) (hc : 0 ≤ c ∧ c ≤ 3) : LineOk (putN b (8 * c).toNat (numB t 8)) := by
  refine ⟨by rw [putN_length (by rw [numB_length, hb.1]; omega), hb.1], fun x hx => ?_⟩
  unfold putN at hx
  rw [List.mem_append, List.mem_append] at hx
  rcases hx with (hx | hx) | hx
  · exact hb.2 x (List.mem_of_mem_take hx)
  · exact numB_byt _ _ x hx
  · exact hb.2 x (List.mem_of_mem_drop hx)
theorem numB_inj {v w : Int} {k : Nat} : numB v k = numB w k ↔ v % 256 ^ k = w % 256 ^ k := by
  constructor
  · intro h
    have := congrArg readB h
    rwa [readB_numB, readB_numB] at this
  · intro h
    have e : ∀ v : Int, numB v k = numB (v % 256 ^ k) k := fun v => by
      have h1 := numB_read (numB_byt v k)
      rw [numB_length, readB_numB] at h1
      exact h1.symm
    rw [e v, e w, h]
end Go.Sx
namespace Go.Sx
theorem wrap_u16 (n : Int) : IntKind.u16.wrap n = n % 65536 := by simp [IntKind.wrap, IntKind.bits, IntKind.signed]
theorem dataL_length {n m k : Int} {x : List Int} (h : x.length = 32) : (dataL n m k x).length = 51 := by simp [dataL, numB_length, h]
theorem itemL_length {l i : Int} {x : List Int} (h : x.length = 32) : (itemL l i x).length = 42 := by simp [itemL, numB_length, h]
theorem data_item {n m k l i : Int} {x y : List Int} : dataL n m k x ≠ itemL l i y := by
  intro h
  have := congrArg (fun l => l.getD 0 0) h
  simp [dataL, itemL] at this
theorem data_one {a b m n u v : Int} {x y : List Int} (ha : I64 a) (hb : I64 b) (hm : 0 ≤ m ∧ m < 2 ^ 64) (hn : 0 ≤ n ∧ n < 2 ^ 64) (hx : x.length = 32) (hy : y.length = 32) :
    dataL a m u x = dataL b n v y ↔ a = b ∧ m = n ∧ IntKind.u16.wrap u = IntKind.u16.wrap v ∧ x = y := by
  unfold dataL
  constructor
  · intro h
    obtain ⟨h, h4⟩ := List.append_inj h (by simp [numB_length])
    obtain ⟨h, h3⟩ := List.append_inj h (by simp [numB_length])
    obtain ⟨h, h2⟩ := List.append_inj h (by simp [numB_length])
    obtain ⟨_, h1⟩ := List.append_inj h rfl
    rw [numB_inj] at h1 h2 h3
    rw [wrap_u16, wrap_u16]
    unfold u64I at *
    unfold I64 at *
    simp only [Int.reducePow] at h1 h2 h3 hm hn
    exact ⟨by omega, by omega, by omega, h4⟩
  · rintro ⟨rfl, rfl, h3, rfl⟩
    rw [wrap_u16, wrap_u16] at h3
    have : numB (u64I u) 2 = numB (u64I v) 2 := by
      rw [numB_inj]
      unfold u64I
      simp only [Int.reducePow]
      omega
    rw [this]
theorem item_one {l k i j : Int} {x y : List Int} (hi : I64 i) (hj : I64 j) : itemL l i x = itemL k j y ↔ IntKind.u8.wrap l = IntKind.u8.wrap k ∧ i = j ∧ x = y := by
  unfold itemL
  constructor
  · intro h
    by_cases hxy : x.length = y.length
    · obtain ⟨h, h4⟩ := List.append_inj h (by simp [numB_length])
      obtain ⟨h, h2⟩ := List.append_inj h (by simp [numB_length])
      obtain ⟨_, h1⟩ := List.append_inj h rfl
      rw [numB_inj] at h1 h2
      rw [wrap_u8, wrap_u8]
      unfold u64I at *
      unfold I64 at *
      simp only [Int.reducePow] at h1 h2
      exact ⟨by omega, by omega, h4⟩
    · have := congrArg List.length h
      simp [numB_length] at this
      exact absurd this hxy
  · rintro ⟨h1, rfl, rfl⟩
    rw [wrap_u8, wrap_u8] at h1
    have : numB (u64I l) 1 = numB (u64I k) 1 := by
      rw [numB_inj]
      unfold u64I
      simp only [Int.reducePow]
      omega
    rw [this]
end Go.Sx
