/- Part of the proof: SxOpX. -/
import Derived.Test.YtinjdimejijabaaSxOpW
import Derived.Test.YtinjdimejijabaaSxFitV
set_option linter.unusedVariables false
set_option linter.unusedSimpArgs false
namespace Go.Sx
theorem size_cases {n : Int} (h : sizeB n = true) : n = 1 ∨ n = 2 ∨ n = 4 ∨ n = 8 := by
  unfold sizeB at h
  simp only [Bool.or_eq_true, beq_iff_eq] at h
  omega
theorem ZxP {w n : Int} (h : sizeB n = true) (h0 : 0 <= w) (h1 : w < 2 ^ 64) : Zma .u64 w (Zgf n) = w % 256 ^ n.toNat := by
  obtain ⟨a, rfl⟩ := Int.eq_ofNat_of_zero_le h0
  have key : ∀ m : Nat, m <= 8 -> Zgf n = ((2 ^ (8 * m) - 1 : Nat) : Int) -> n.toNat = m -> Zma .u64 (a : Int) (Zgf n) = (a : Int) % 256 ^ n.toNat := fun m hm e1 e2 => by
    rw [e1, ZAr a (8 * m) (by omega) (by omega), e2, Int.natCast_emod, Nat.pow_mul, Int.natCast_pow]
    rfl
  rcases size_cases h with rfl | rfl | rfl | rfl
  · exact key 1 (by decide) (by decide) rfl
  · exact key 2 (by decide) (by decide) rfl
  · exact key 4 (by decide) (by decide) rfl
  · exact key 8 (by decide) (by decide) rfl
namespace OpV
theorem good_true {o : OpV} (h : o.good = true) : sizeB o.on = true /\ (chgB o.okind = true ∨ o.okind = 1) := by
  unfold good at h
  simpa only [Bool.and_eq_true, Bool.or_eq_true, beq_iff_eq] using h
theorem next_bad {o : OpV} {xs : List Int} (h : o.good = false) : xs = o.next xs /\ 0 = o.result xs := by
  unfold next result
  rw [h]
  exact ⟨rfl, rfl⟩
theorem next_good {o : OpV} {xs : List Int} (h : o.good = true) : o.next xs = o.nextAt o.place xs /\ o.result xs = o.numAt o.place xs := by
  unfold next result
  rw [h]
  exact ⟨rfl, rfl⟩
theorem nextAt_none {o : OpV} {k : Nat} {xs : List Int} (h : o.putAt k xs = none) : o.nextAt k xs = xs := by unfold nextAt; rw [h]
theorem nextAt_some {o : OpV} {k : Nat} {xs : List Int} {v : Int} (h : o.putAt k xs = some v) : o.nextAt k xs = o.laid k xs v := by unfold nextAt; rw [h]
theorem put_load {o : OpV} {k : Nat} {xs : List Int} (h : o.okind = 1) : o.putAt k xs = none := if_pos h
theorem put_swap {o : OpV} {k : Nat} {xs : List Int} (h : o.okind = 3) : o.putAt k xs = if o.numAt k xs = o.owant % 256 ^ o.on.toNat then some o.oval else none := by
  unfold putAt; rw [if_neg (by omega), if_pos h]
theorem put_add {o : OpV} {k : Nat} {xs : List Int} (h : o.okind = 4) : o.putAt k xs = some ((o.oval + o.numAt k xs) % 18446744073709551616) := by
  unfold putAt; rw [if_neg (by omega), if_neg (by omega), if_pos h]
theorem put_else {o : OpV} {k : Nat} {xs : List Int} (h1 : o.okind ≠ 1) (h3 : o.okind ≠ 3) (h4 : o.okind ≠ 4) : o.putAt k xs = some o.oval := by
  unfold putAt; rw [if_neg h1, if_neg h3, if_neg h4]
theorem numAt_range {o : OpV} {k : Nat} {xs : List Int} (hs : sizeB o.on = true) (hb : Byt xs) : 0 <= o.numAt k xs /\ o.numAt k xs < 2 ^ 64 := by
  have h1 := Zka ((hb.drop k).take o.on.toNat)
  have h2 : ((xs.drop k).take o.on.toNat).length <= 8 := by
    rw [List.length_take]
    rcases size_cases hs with h | h | h | h <;> omega
  have h3 := ZkY (b := 256) 256 rfl (by omega) h2
  unfold numAt
  have : (256 : Int) ^ 8 = 2 ^ 64 := by decide
  omega
theorem min64 {o : OpV} (hs : sizeB o.on = true) : min o.on 64 = o.on := by rcases size_cases hs with h | h | h | h <;> omega
theorem laid_eq {o : OpV} {k : Nat} {xs : List Int} {v : Int} (hs : sizeB o.on = true) :
    xs.take k ++ ((ZdN v (min o.on 64).toNat).take (0 + (min o.on 64).toNat)).take (min (0 + (min o.on 64).toNat) o.on.toNat) ++ xs.drop (k + min (0 + (min o.on 64).toNat) o.on.toNat) = o.laid k xs v := by
  have ht : (ZdN v o.on.toNat).take o.on.toNat = ZdN v o.on.toNat := List.take_of_length_le (by rw [ZbU]; exact Nat.le_refl _)
  rw [min64 hs, Nat.zero_add, Nat.min_self, ht, ht]
  rfl
end OpV
def ZtB (b : List Int) (k : Nat) (zs : List Int) : List Int := b.take k ++ zs ++ b.drop (k + zs.length)
theorem Zz6 (b : List Int) (k : Nat) : ZtB b k [] = b := by simp [ZtB]
theorem ZkN {b zs : List Int} {k : Nat} (h : k + zs.length <= b.length) : (ZtB b k zs).length = b.length := by
  simp only [ZtB, List.length_append, List.length_take, List.length_drop]; omega
theorem Zz5 {b ys : List Int} {k i : Nat} (hi : i < ys.length) (h : k + i < b.length) : (ZtB b k (ys.take i)).set (k + i) (ys.getD i 0) = ZtB b k (ys.take (i + 1)) := by
  have hl : (ys.take i).length = i := by rw [List.length_take]; omega
  have hl' : (ys.take (i + 1)).length = i + 1 := by rw [List.length_take]; omega
  have hk : (b.take k).length = k := by rw [List.length_take]; omega
  unfold ZtB
  rw [hl, hl', List.append_assoc, List.set_append, if_neg (by omega), List.set_append, if_neg (by omega), hl, hk, show k + i - k - i = 0 by omega, List.drop_eq_getElem_cons h, ZfC hi]
  simp only [List.set_cons_zero, List.append_assoc, List.cons_append, List.nil_append, Nat.add_assoc]
theorem Zpm {o : OpV} {b : List Int} {k : Nat} {v : Int} : ZtB b k (ZdN v o.on.toNat) = o.laid k b v := by
  unfold ZtB OpV.laid; rw [ZbU]
theorem Zzx {v : Int} {m : Nat} (h0 : 0 <= v) (hm : m <= 8) : Zcz ((ZdN v m).take 8) = v % 256 ^ m := by
  obtain ⟨a, rfl⟩ := Int.eq_ofNat_of_zero_le h0
  rw [List.take_of_length_le (by rw [ZbU]; exact hm), ZtF, Int.natCast_emod, Int.natCast_pow]
  rfl
theorem OpV.laid_length {o : OpV} {k : Nat} {b : List Int} {v : Int} (h : k + o.on.toNat <= b.length) : (o.laid k b v).length = b.length := by
  rw [<- Zpm]
  exact ZkN (by rw [ZbU]; exact h)
theorem OpV.nextAt_length {o : OpV} {k : Nat} {b : List Int} (h : k + o.on.toNat <= b.length) : (o.nextAt k b).length = b.length := by
  unfold OpV.nextAt
  split
  · exact OpV.laid_length h
  · rfl
theorem OpV.laid_byt {o : OpV} {k : Nat} {b : List Int} {v : Int} (hb : Byt b) : Byt (o.laid k b v) := by
  unfold OpV.laid
  intro x hx
  rcases List.mem_append.1 hx with hx | hx
  · rcases List.mem_append.1 hx with hx | hx
    · exact hb.take _ x hx
    · exact ZmZ _ _ x hx
  · exact hb.drop _ x hx
theorem OpV.nextAt_byt {o : OpV} {k : Nat} {b : List Int} (hb : Byt b) : Byt (o.nextAt k b) := by
  unfold OpV.nextAt
  split
  · exact OpV.laid_byt hb
  · exact hb
theorem OpV.next_ok {o : OpV} {xs : List Int} (h : Zi4 xs) : Zi4 (o.next xs) := by
  unfold OpV.next
  split
  · rename_i hg
    have hs := (OpV.good_true hg).1
    have hd := (ZqS (at_ := o.oat) hs).2.1
    refine ⟨?_, OpV.nextAt_byt (b := xs) h.2⟩
    have hx := h.1
    rw [OpV.nextAt_length (by unfold OpV.place; omega)]
    exact hx
  · exact h
end Go.Sx
