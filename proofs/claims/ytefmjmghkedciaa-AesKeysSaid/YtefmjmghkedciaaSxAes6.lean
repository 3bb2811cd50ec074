/- Part of the proof: SxAes6. -/
import Derived.Test.YtefmjmghkedciaaSxAes5
set_option linter.unusedVariables false
set_option linter.unusedSimpArgs false
namespace Go.Sx
theorem kGo_get (a : List Int) (m : Int) : ∀ i, i <= 16 -> ((∀ j, j < i -> (kGo a m i).2.getD j 0 = ixor .u8 (if j < 4 then (kWord a m).getD j 0 else (kGo a m i).2.getD (j - 4) 0) (a.getD j 0)) /\
    ∀ c, c < 4 -> (kGo a m i).1.getD c 0 = if c < i then (kGo a m i).2.getD ((i - 1 - c) / 4 * 4 + c) 0 else (kWord a m).getD c 0)
  | 0, _ => ⟨fun j hj => by omega, fun c hc => by rw [if_neg (by omega)]; rfl⟩
  | i + 1, hi => by
    obtain ⟨h1, h2⟩ := kGo_get a m i (by omega)
    have gl := kGo_len a m i
    have hm : i % 4 < 4 := Nat.mod_lt _ (by omega)
    have hlast : (kGo a m (i + 1)).2.getD i 0 = ixor .u8 ((kGo a m i).1.getD (i % 4) 0) (a.getD i 0) := by
      conv => lhs; unfold kGo
      rw [List.getD_eq_getElem?_getD, List.getElem?_append_right (by omega), gl.2, Nat.sub_self]
      rfl
    have hold : ∀ j, j < i -> (kGo a m (i + 1)).2.getD j 0 = (kGo a m i).2.getD j 0 := fun j hj => by
      conv => lhs; unfold kGo
      rw [List.getD_eq_getElem?_getD, List.getElem?_append_left (by omega), <- List.getD_eq_getElem?_getD]
    have hword : ∀ c, (kGo a m (i + 1)).1.getD c 0 = if c = i % 4 then ixor .u8 ((kGo a m i).1.getD (i % 4) 0) (a.getD i 0) else (kGo a m i).1.getD c 0 := fun c => by
      conv => lhs; unfold kGo
      exact getD_setI (by omega)
    refine ⟨fun j hj => ?_, fun c hc => ?_⟩
    · by_cases hji : j = i
      · subst hji
        rw [hlast, h2 _ hm]
        by_cases h4 : j < 4
        · rw [if_pos h4, if_neg (by omega), show j % 4 = j by omega]
        · rw [if_neg h4, if_pos (by omega), hold _ (by omega), show (j - 1 - j % 4) / 4 * 4 + j % 4 = j - 4 by omega]
      · rw [hold _ (by omega), h1 j (by omega)]
        by_cases h4 : j < 4
        · rw [if_pos h4, if_pos h4]
        · rw [if_neg h4, if_neg h4, hold _ (by omega)]
    · rw [hword]
      by_cases hci : c = i % 4
      · rw [if_pos hci, if_pos (by omega), show (i + 1 - 1 - c) / 4 * 4 + c = i by omega, hlast]
      · rw [if_neg hci, h2 c hc]
        by_cases hlt : c < i
        · rw [if_pos hlt, if_pos (by omega), hold _ (by omega), show (i + 1 - 1 - c) / 4 = (i - 1 - c) / 4 by omega]
        · rw [if_neg hlt, if_neg (by omega)]
theorem kN_inj {a b : List Int} {m : Int} (ha : BlkOk a) (hb : BlkOk b) (h : (kGo a m 16).2 = (kGo b m 16).2) : a = b := by
  obtain ⟨ga, _⟩ := kGo_get a m 16 (Nat.le_refl _)
  obtain ⟨gb, _⟩ := kGo_get b m 16 (Nat.le_refl _)
  have hi : ∀ j, 4 <= j -> j < 16 -> a.getD j 0 = b.getD j 0 := fun j h4 hj => by
    have e1 := ga j hj
    have e2 := gb j hj
    rw [if_neg (by omega)] at e1 e2
    rw [h, e2] at e1
    exact (xor_right (getDb hb.2 j) (getDb ha.2 j) e1).symm
  have hw : kWord a m = kWord b m := by
    unfold kWord
    rw [hi 12 (by omega) (by omega), hi 13 (by omega) (by omega), hi 14 (by omega) (by omega), hi 15 (by omega) (by omega)]
  have hlo : ∀ j, j < 4 -> a.getD j 0 = b.getD j 0 := fun j h4 => by
    have e1 := ga j (by omega)
    have e2 := gb j (by omega)
    rw [if_pos h4] at e1 e2
    rw [h, e2, hw] at e1
    exact (xor_right (getDb hb.2 j) (getDb ha.2 j) e1).symm
  have e1 := range_ext (f := fun j => b.getD j 0) ha.1 fun j hj => by
    by_cases h4 : j < 4
    · exact hlo j h4
    · exact hi j (by omega) hj
  exact e1.trans (range_ext (f := fun j => b.getD j 0) hb.1 fun j _ => rfl).symm
theorem kRun_more (a b : List Int) : ∀ r, (kRun a r).2 = (kRun b r).2
  | 0 => rfl
  | r + 1 => by unfold kRun; rw [kRun_more a b r]
def kAt (k : List Int) (r : Nat) : List Int := (kRun k r).1.drop (16 * r)
theorem kAt_ok {k : List Int} (h : BlkOk k) (r : Nat) : BlkOk (kAt k r) := by
  obtain ⟨h1, h2, _⟩ := kRun_ok h r
  exact ⟨by unfold kAt; rw [List.length_drop, h1]; omega, fun x hx => h2 x (List.mem_of_mem_drop hx)⟩
theorem kAt_succ {k : List Int} (h : BlkOk k) (r : Nat) : kAt k (r + 1) = (kGo (kAt k r) (kRun k r).2 16).2 := by
  unfold kAt
  rw [kRun, List.drop_append, (kRun_ok h r).1, Nat.sub_self, List.drop_of_length_le (by rw [(kRun_ok h r).1]; omega)]
  rfl
theorem kAt_inj {a b : List Int} (ha : BlkOk a) (hb : BlkOk b) : ∀ r, kAt a r = kAt b r -> a = b
  | 0, h => h
  | r + 1, h => by
    rw [kAt_succ ha, kAt_succ hb, kRun_more a b r] at h
    exact kAt_inj ha hb r (kN_inj (kAt_ok ha r) (kAt_ok hb r) h)
theorem kRun_at {k : List Int} (h : BlkOk k) {r : Nat} : ∀ n, ((kRun k (r + n)).1.drop (16 * r)).take 16 = kAt k r
  | 0 => by
    show (kAt k r).take 16 = kAt k r
    exact List.take_of_length_le (by rw [(kAt_ok h r).1]; omega)
  | n + 1 => by
    rw [<- Nat.add_assoc, kRun, List.drop_append_of_le_length (by rw [(kRun_ok h _).1]; omega), List.take_append_of_le_length (by rw [List.length_drop, (kRun_ok h _).1]; omega)]
    exact kRun_at h n
theorem keys_at {k : List Int} (h : BlkOk k) {r : Nat} (hr : r <= 10) : ((keysL k).drop (16 * r)).take 16 = kAt k r := by
  have := kRun_at h (r := r) (10 - r)
  rw [show r + (10 - r) = 10 by omega] at this
  exact this
theorem keys_inj {a b : List Int} (ha : BlkOk a) (hb : BlkOk b) {r : Nat} (hr : r <= 10) : (((keysL a).drop (16 * r)).take 16 == ((keysL b).drop (16 * r)).take 16) = (a == b) := by
  rw [keys_at ha hr, keys_at hb hr, Bool.eq_iff_iff, beq_iff_eq, beq_iff_eq]
  exact ⟨kAt_inj ha hb r, fun h => by rw [h]⟩
end Go.Sx
