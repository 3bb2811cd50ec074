/- Part of the proof: SxAes6. -/
import Derived.Test.YtfffjdfegnmejaaSxAes5
set_option linter.unusedVariables false
set_option linter.unusedSimpArgs false
namespace Go.Sx
theorem Zw0 (a : List Int) (m : Int) : ∀ i, i <= 16 -> ((∀ j, j < i -> (kGo a m i).2.getD j 0 = Zar .u8 (if j < 4 then (ZEy a m).getD j 0 else (kGo a m i).2.getD (j - 4) 0) (a.getD j 0)) /\
    ∀ c, c < 4 -> (kGo a m i).1.getD c 0 = if c < i then (kGo a m i).2.getD ((i - 1 - c) / 4 * 4 + c) 0 else (ZEy a m).getD c 0)
  | 0, _ => ⟨fun j hj => by omega, fun c hc => by rw [if_neg (by omega)]; rfl⟩
  | i + 1, hi => by
    obtain ⟨h1, h2⟩ := Zw0 a m i (by omega)
    have gl := ZlI a m i
    have hm : i % 4 < 4 := Nat.mod_lt _ (by omega)
    have hlast : (kGo a m (i + 1)).2.getD i 0 = Zar .u8 ((kGo a m i).1.getD (i % 4) 0) (a.getD i 0) := by
      conv => lhs; unfold kGo
      rw [List.getD_eq_getElem?_getD, List.getElem?_append_right (by omega), gl.2, Nat.sub_self]
      rfl
    have hold : ∀ j, j < i -> (kGo a m (i + 1)).2.getD j 0 = (kGo a m i).2.getD j 0 := fun j hj => by
      conv => lhs; unfold kGo
      rw [List.getD_eq_getElem?_getD, List.getElem?_append_left (by omega), <- List.getD_eq_getElem?_getD]
    have hword : ∀ c, (kGo a m (i + 1)).1.getD c 0 = if c = i % 4 then Zar .u8 ((kGo a m i).1.getD (i % 4) 0) (a.getD i 0) else (kGo a m i).1.getD c 0 := fun c => by
      conv => lhs; unfold kGo
      exact Zca (by omega)
    refine ⟨fun j hj => ?_, fun c hc => ?_⟩
    · by_cases hji : j = i
      · subst hji
        rw [hlast, h2 _ hm]
        by_cases h4 : j < 4
        · rw [if_pos h4, if_neg (by omega), show j % 4 = j by omega]
        · rw [if_neg h4, if_pos (by omega), hold _ (by omega), show (j - 1 - j % 4) / 4 * 4 + j % 4 = j - 4 by omega]
      · rw [hold _ (by omega), h1 j (by omega)]
        by_cases h4 : j < 4
        · rw [if_pos h4, if_pos h4]
        · rw [if_neg h4, if_neg h4, hold _ (by omega)]
    · rw [hword]
      by_cases hci : c = i % 4
      · rw [if_pos hci, if_pos (by omega), show (i + 1 - 1 - c) / 4 * 4 + c = i by omega, hlast]
      · rw [if_neg hci, h2 c hc]
        by_cases hlt : c < i
        · rw [if_pos hlt, if_pos (by omega), hold _ (by omega), show (i + 1 - 1 - c) / 4 = (i - 1 - c) / 4 by omega]
        · rw [if_neg hlt, if_neg (by omega)]
def kAt (k : List Int) (r : Nat) : List Int := (ZdY k r).1.drop (16 * r)
theorem ZLq {k : List Int} (h : Zaz k) (r : Nat) : Zaz (kAt k r) := by
  obtain ⟨h1, h2, _⟩ := Zd6 h r
  exact ⟨by unfold kAt; rw [List.length_drop, h1]; omega, fun x hx => h2 x (List.mem_of_mem_drop hx)⟩
theorem Zzh {k : List Int} (h : Zaz k) (r : Nat) : kAt k (r + 1) = (kGo (kAt k r) (ZdY k r).2 16).2 := by
  unfold kAt
  rw [ZdY, List.drop_append, (Zd6 h r).1, Nat.sub_self, List.drop_of_length_le (by rw [(Zd6 h r).1]; omega)]
  rfl
theorem ZlH {k : List Int} (h : Zaz k) {r : Nat} : ∀ n, ((ZdY k (r + n)).1.drop (16 * r)).take 16 = kAt k r
  | 0 => by
    show (kAt k r).take 16 = kAt k r
    exact List.take_of_length_le (by rw [(ZLq h r).1]; omega)
  | n + 1 => by
    rw [<- Nat.add_assoc, ZdY, List.drop_append_of_le_length (by rw [(Zd6 h _).1]; omega), List.take_append_of_le_length (by rw [List.length_drop, (Zd6 h _).1]; omega)]
    exact ZlH h n
theorem ZwX {k : List Int} (h : Zaz k) {r : Nat} (hr : r <= 10) : ((ZfP k).drop (16 * r)).take 16 = kAt k r := by
  have := ZlH h (r := r) (10 - r)
  rw [show r + (10 - r) = 10 by omega] at this
  exact this
end Go.Sx
