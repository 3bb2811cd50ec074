/- The contracts of the functions of bits, in the decoded form. -/
import Derived.Test.YtefmjmghkedciaaSxV1
import Derived.Test.YtefmjmghkedciaaSxT6
import Derived.Test.YtefmjmghkedciaaSxG
import Derived.Test.YtefmjmghkedciaaSxPut
set_option linter.unusedVariables false
set_option linter.unusedSimpArgs false
namespace Go.Proofs.Ytefmjmghkedciaa
open Go.Sx
theorem put_none {m : Nat} {xs : List Int} {a n v : Int} (hl : xs.length = m) (h : ¬ There m a n) : putE m a n v = 2 ∧ putL xs a n v = xs := by
  have h1 : thereB m a n = false := decide_eq_false h
  have h2 : putE m a n v = 2 := by unfold putE; rw [if_neg (by rw [h1]; decide)]
  refine ⟨h2, ?_⟩
  unfold putL
  rw [hl, if_neg (by omega)]
theorem put_great {m : Nat} {xs : List Int} {a n v : Int} (hl : xs.length = m) (h : There m a n) (hv : ¬ v < 2 ^ n.toNat) : putE m a n v = 1 ∧ putL xs a n v = xs := by
  have h1 : thereB m a n = true := decide_eq_true h
  have h2 : putE m a n v = 1 := by unfold putE; rw [if_pos h1, if_neg hv]
  refine ⟨h2, ?_⟩
  unfold putL
  rw [hl, if_neg (by omega)]
theorem put_some {m : Nat} {xs ys : List Int} {a n v : Int} (hl : xs.length = m) (h : There m a n) (hv : v < 2 ^ n.toNat) (hy : PutOk xs ys a.toNat n.toNat v) : putE m a n v = 0 ∧ ys = putL xs a n v := by
  have h1 : thereB m a n = true := decide_eq_true h
  have h2 : putE m a n v = 0 := by unfold putE; rw [if_pos h1, if_pos hv]
  refine ⟨h2, ?_⟩
  unfold putL
  rw [hl, if_pos h2]
  obtain ⟨g1, g2, g3⟩ := hy
  unfold There at h
  exact setB_uniq (by omega) g1 g2 g3
theorem got_none {m : Nat} {xs : List Int} {a n : Int} (hl : xs.length = m) (h : ¬ There m a n) : gotE m a n = 2 ∧ gotL xs a n = 0 := by
  have h1 : thereB m a n = false := decide_eq_false h
  unfold gotE gotL
  rw [hl, if_neg (by rw [h1]; decide), if_neg (by rw [h1]; decide)]
  exact ⟨rfl, rfl⟩
theorem got_some {m : Nat} {xs : List Int} {a n : Int} (hl : xs.length = m) (h : There m a n) : gotE m a n = 0 ∧ gotL xs a n = getB xs a.toNat n.toNat := by
  have h1 : thereB m a n = true := decide_eq_true h
  unfold gotE gotL
  rw [hl, if_pos h1, if_pos h1]
  exact ⟨rfl, rfl⟩
def DbNumber : DSpec := fun ds => match ds with
  | [.sl false .u8 b_n b_c b, .pl (.int .u64 v), .pl (.int .i64 n)] => some ((List.length b = b_n ∧ b_n ≤ 1000000 ∧ 0 ≤ v ∧ v < 2 ^ 64), [.sl .u8 (b_n + Int.toNat (min n 64)) (b ++ (numB v (Int.toNat (min n 64))))], [])
  | _ => none
def conbNumber : Con := ⟨41, dC DbNumber, [], [.ints .u8 0 []], []⟩
theorem sbNumber : Sound Try.prog 41 (dS DbNumber) := s41.mono fun args H K h => by
  obtain ⟨ds, rfl, rfl, h⟩ := h
  split at h
  · rename_i pre rs ws hD
    obtain ⟨hpre, hK⟩ := h
    unfold DbNumber at hD
    split at hD
    · cases hD
      exact ⟨false, _, _, _, _, _, rfl, rfl, hpre.1, hpre.2.1, hpre.2.2.1, hpre.2.2.2, fun c h => hK c h⟩
    · cases hD
  · exact h.elim
def DqNumber : DSpec := fun ds => match ds with
  | [.sl false .u8 b_n b_c b, .pl (.int .u64 v), .pl (.int .i64 n)] => some ((List.length b = b_n ∧ b_n ≤ 1000000 ∧ 0 ≤ v ∧ v < 2 ^ 64), [.sl .u8 (b_n + Int.toNat (min n 64)) (b ++ (numB v (Int.toNat (min n 64))))], [])
  | _ => none
def conqNumber : Con := ⟨63, dC DqNumber, [], [.ints .u8 0 []], []⟩
theorem sqNumber : Sound Try.prog 63 (dS DqNumber) := s43.mono fun args H K h => by
  obtain ⟨ds, rfl, rfl, h⟩ := h
  split at h
  · rename_i pre rs ws hD
    obtain ⟨hpre, hK⟩ := h
    unfold DqNumber at hD
    split at hD
    · cases hD
      exact ⟨false, _, _, _, _, _, rfl, rfl, hpre.1, hpre.2.1, hpre.2.2.1, hpre.2.2.2, fun c h => hK c h⟩
    · cases hD
  · exact h.elim
def DcloneB : DSpec := fun ds => match ds with
  | [.sl false .u8 b_n b_c b] => some ((List.length b = b_n ∧ b_n ≤ 1000000000), [.sl .u8 b_n b], [])
  | _ => none
def concloneB : Con := ⟨42, dC DcloneB, [], [.ints .u8 0 []], []⟩
theorem scloneB : Sound Try.prog 42 (dS DcloneB) := s150.mono fun args H K h => by
  obtain ⟨ds, rfl, rfl, h⟩ := h
  split at h
  · rename_i pre rs ws hD
    obtain ⟨hpre, hK⟩ := h
    unfold DcloneB at hD
    split at hD
    · cases hD
      exact ⟨false, _, _, _, rfl, rfl, hpre.1, hpre.2, fun c h => hK c h⟩
    · cases hD
  · exact h.elim
def DbPut : GSpec := fun args H => match args, H with
  | [.slice ⟨0, 0, 0, 1⟩ b_n b_c, .int .i64 at_, .int .i64 n, .int .u64 v], ⟨1, [(0, some ⟨true, [.ints .u8 b_m b], 0⟩)]⟩ => some (b_m = b_n ∧ (List.length b = b_n ∧ b_n ≤ b_c ∧ b_n ≤ 1000000 ∧ Byt b ∧ I64 at_ ∧ I64 n ∧ 0 ≤ v ∧ v < 2 ^ 64), fun K => K (.int .i64 (putE b_n at_ n v)) ⟨1, [(0, some ⟨true, [.ints .u8 b_n (putL b at_ n v)], 0⟩)]⟩)
  | _, _ => none
def conbPut : Con := ⟨40, gS DbPut, [0], [], []⟩
theorem sbPut : Sound Try.prog 40 (gS DbPut) := s47.mono fun args H K h => by
  obtain ⟨pre, out, hD, hpre, hK⟩ := gS_inv h
  unfold DbPut at hD
  split at hD
  · cases hD
    obtain ⟨hmn, hl, hc, hm, hb, ha, hn, hv, hv2⟩ := hpre
    subst hmn
    refine ⟨_, _, _, _, _, _, rfl, rfl, hm, ha, hn, hl, hb, hv, hv2, fun ht => ?_, fun ht hv => ?_, fun ht hv ys hy => ?_⟩
    · simp only [fun v => (put_none (v := v) hl ht).1, fun v => (put_none (v := v) hl ht).2] at hK; exact hK
    · have h2 := put_great hl ht hv
      simp only [h2.1, h2.2] at hK; exact hK
    · have h2 := put_some hl ht hv hy
      simp only [h2.1, ← h2.2] at hK; exact hK
  · cases hD
end Go.Proofs.Ytefmjmghkedciaa
