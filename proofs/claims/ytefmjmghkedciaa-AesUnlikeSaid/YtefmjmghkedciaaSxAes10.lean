/- A cipher's steps take unlike blocks to unlike ones. -/
import Derived.Test.YtefmjmghkedciaaSxAes7
import Derived.Test.YtefmjmghkedciaaSxAes2
set_option linter.unusedVariables false
set_option linter.unusedSimpArgs false
namespace Go.Sx
theorem blk_ext {a b : List Int} (ha : BlkOk a) (hb : BlkOk b) (h : ∀ j, j < 16 → a.getD j 0 = b.getD j 0) : a = b :=
  (range_ext (f := fun j => b.getD j 0) ha.1 h).trans (range_ext (f := fun j => b.getD j 0) hb.1 fun _ _ => rfl).symm
theorem xorL_inj {k a b : List Int} (ha : BlkOk a) (hb : BlkOk b) (h : xorL a k = xorL b k) : a = b := blk_ext ha hb fun j hj => by
  have := congrArg (fun l => l.getD j 0) h
  simp only [xorL] at this
  rw [range_getD hj, range_getD hj] at this
  exact xor_left (getDb ha.2 j) (getDb hb.2 j) this
theorem shiftL_inj {a b : List Int} (ha : BlkOk a) (hb : BlkOk b) (h : shiftL a = shiftL b) : a = b := blk_ext ha hb fun j hj => by
  have back : ∀ j, j < 16 → ∃ i, i < 16 ∧ (i + 4 * (i % 4)) % 16 = j := by decide
  obtain ⟨i, hi, rfl⟩ := back j hj
  have := congrArg (fun l => l.getD i 0) h
  simp only [shiftL] at this
  rw [range_getD hi, range_getD hi] at this
  exact subB_inj (getDb ha.2 _) (getDb hb.2 _) this
/-- A column mixed, as bits. -/
def mc (a b c d : BitVec 8) : BitVec 8 := a ^^^ (a ^^^ b ^^^ c ^^^ d ^^^ xt (a ^^^ b))
theorem xor_cancel (a b : BitVec 8) : a ^^^ (a ^^^ b) = b := by rw [← BitVec.xor_assoc, BitVec.xor_self, BitVec.zero_xor]
theorem xor_lc (a b c : BitVec 8) : a ^^^ (b ^^^ c) = b ^^^ (a ^^^ c) := by rw [← BitVec.xor_assoc, BitVec.xor_comm a b, BitVec.xor_assoc]
theorem xt_zero : xt 0#8 = 0#8 := by decide
/-- Twice. -/
def mc2 (a c : BitVec 8) : BitVec 8 := a ^^^ (xt (xt a) ^^^ xt (xt c))
theorem mc_mc (a b c d : BitVec 8) : mc (mc a b c d) (mc b c d a) (mc c d a b) (mc d a b c) = mc2 a c := by
  simp only [mc, mc2, xt_add, BitVec.xor_assoc, BitVec.xor_comm, xor_lc, xor_cancel, BitVec.xor_self, BitVec.xor_zero, BitVec.zero_xor]
theorem mc2_mc2 (a c : BitVec 8) : mc2 (mc2 a c) (mc2 c a) = a := by
  simp only [mc2, xt_add, BitVec.xor_assoc, BitVec.xor_comm, xor_lc, xor_cancel, BitVec.xor_self, BitVec.xor_zero, BitVec.zero_xor]
theorem mc_inj {a b c d a' b' c' d' : BitVec 8} (h1 : mc a b c d = mc a' b' c' d') (h2 : mc b c d a = mc b' c' d' a') (h3 : mc c d a b = mc c' d' a' b') (h4 : mc d a b c = mc d' a' b' c') : a = a' := by
  have e1 := mc_mc a b c d
  have e2 := mc_mc c d a b
  rw [h1, h2, h3, h4, mc_mc] at e1
  rw [h1, h2, h3, h4, mc_mc] at e2
  rw [← mc2_mc2 a c, ← e1, ← e2, mc2_mc2]
theorem mix_bits {s : List Int} (hs : BlkOk s) {j : Nat} (hj : j < 16) : bv ((mixL s).getD j 0) =
    mc (bv (s.getD j 0)) (bv (s.getD (4 * (j / 4) + (j % 4 + 1) % 4) 0)) (bv (s.getD (4 * (j / 4) + (j % 4 + 2) % 4) 0)) (bv (s.getD (4 * (j / 4) + (j % 4 + 3) % 4) 0)) := by
  have hd : ∀ x : Int, bv (dbl (ixor .u8 x (s.getD (4 * (j / 4) + (j % 4 + 1) % 4) 0))) = xt (bv x ^^^ bv (s.getD (4 * (j / 4) + (j % 4 + 1) % 4) 0)) := fun x => by
    rw [← bv_xor]
    obtain ⟨n, hn⟩ := Int.eq_ofNat_of_zero_le (ixor_u8 x (s.getD (4 * (j / 4) + (j % 4 + 1) % 4) 0)).1
    rw [hn, dbl_bits n (by have := (ixor_u8 x (s.getD (4 * (j / 4) + (j % 4 + 1) % 4) 0)).2; omega)]
  rw [mixL, range_getD hj, mixF, bv_xor, bv_xor, hd, colX, bv_xor, bv_xor, bv_xor, mc]
  have hq : j % 4 = 0 ∨ j % 4 = 1 ∨ j % 4 = 2 ∨ j % 4 = 3 := by omega
  congr 2
  have e0 : j = 4 * (j / 4) + j % 4 := by omega
  rcases hq with h | h | h | h <;> rw [h] at e0 ⊢ <;> generalize j / 4 = c at e0 ⊢ <;> subst e0 <;>
    simp only [Nat.reduceAdd, Nat.reduceMod, Nat.add_zero, BitVec.xor_assoc, BitVec.xor_comm, xor_lc]
theorem mixL_inj {a b : List Int} (ha : BlkOk a) (hb : BlkOk b) (h : mixL a = mixL b) : a = b := blk_ext ha hb fun j hj => by
  apply bv_inj (getDb ha.2 j) (getDb hb.2 j)
  have g : ∀ i, i < 16 → _ := fun i hi => (mix_bits ha hi).symm.trans ((by rw [h] : bv ((mixL a).getD i 0) = bv ((mixL b).getD i 0)).trans (mix_bits hb hi))
  have hq : j % 4 = 0 ∨ j % 4 = 1 ∨ j % 4 = 2 ∨ j % 4 = 3 := by omega
  have g0 := g (4 * (j / 4)) (by omega)
  have g1 := g (4 * (j / 4) + 1) (by omega)
  have g2 := g (4 * (j / 4) + 2) (by omega)
  have g3 := g (4 * (j / 4) + 3) (by omega)
  have d0 : 4 * (j / 4) / 4 = j / 4 := by omega
  have d1 : (4 * (j / 4) + 1) / 4 = j / 4 := by omega
  have d2 : (4 * (j / 4) + 2) / 4 = j / 4 := by omega
  have d3 : (4 * (j / 4) + 3) / 4 = j / 4 := by omega
  have m0 : 4 * (j / 4) % 4 = 0 := by omega
  have m1 : (4 * (j / 4) + 1) % 4 = 1 := by omega
  have m2 : (4 * (j / 4) + 2) % 4 = 2 := by omega
  have m3 : (4 * (j / 4) + 3) % 4 = 3 := by omega
  rw [d0, m0] at g0
  rw [d1, m1] at g1
  rw [d2, m2] at g2
  rw [d3, m3] at g3
  simp only [Nat.reduceAdd, Nat.reduceMod, Nat.add_zero] at g0 g1 g2 g3
  have e0 : j = 4 * (j / 4) + j % 4 := by omega
  rcases hq with e | e | e | e <;> rw [e] at e0 <;> rw [e0]
  · rw [Nat.add_zero]; exact mc_inj g0 g1 g2 g3
  · exact mc_inj g1 g2 g3 g0
  · exact mc_inj g2 g3 g0 g1
  · exact mc_inj g3 g0 g1 g2
theorem stR_inj {k a b : List Int} (ha : BlkOk a) (hb : BlkOk b) : ∀ r, stR k a r = stR k b r → a = b
  | 0, h => xorL_inj ha hb h
  | r + 1, h => by
    have o := stR_ok k a r
    have p := stR_ok k b r
    unfold stR at h
    by_cases hr : r + 1 < 10
    · rw [if_pos hr, if_pos hr] at h
      exact stR_inj ha hb r (shiftL_inj o p (mixL_inj (shiftL_ok _) (shiftL_ok _) (xorL_inj (mixL_ok _) (mixL_ok _) h)))
    · rw [if_neg hr, if_neg hr] at h
      exact stR_inj ha hb r (shiftL_inj o p (xorL_inj (shiftL_ok _) (shiftL_ok _) h))
theorem encL_inj {k a b : List Int} (ha : BlkOk a) (hb : BlkOk b) : (encL k a == encL k b) = (a == b) := by
  rw [Bool.eq_iff_iff, beq_iff_eq, beq_iff_eq]
  exact ⟨stR_inj ha hb 10, fun h => by rw [h]⟩
end Go.Sx
