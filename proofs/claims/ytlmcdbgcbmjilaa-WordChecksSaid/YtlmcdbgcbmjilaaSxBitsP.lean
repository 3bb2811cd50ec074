/- The contracts of the functions of bits, in the decoded form. -/
import Derived.Test.YtlmcdbgcbmjilaaSxV1
import Derived.Test.YtlmcdbgcbmjilaaSxT5
namespace Go.Proofs.Ytlmcdbgcbmjilaa
open Go.Sx
def DbNumber : DSpec := fun ds => match ds with
  | [.sl false .u8 b_n b_c b, .pl (.int .u64 v), .pl (.int .i64 n)] => some ((List.length b = b_n ∧ b_n ≤ 1000000 ∧ 0 ≤ v ∧ v < 2 ^ 64), [.sl .u8 (b_n + Int.toNat (min n 64)) (b ++ (numB v (Int.toNat (min n 64))))], [])
  | _ => none
def conbNumber : Con := ⟨41, dC DbNumber, [], [.ints .u8 0 []]⟩
theorem sbNumber : Sound Try.prog 41 (dS DbNumber) := s41.mono fun args H K h => by
  obtain ⟨ds, rfl, rfl, h⟩ := h
  split at h
  · rename_i pre rs ws hD
    obtain ⟨hpre, hK⟩ := h
    unfold DbNumber at hD
    split at hD
    · cases hD
      exact ⟨false, _, _, _, _, _, rfl, rfl, hpre.1, hpre.2.1, hpre.2.2.1, hpre.2.2.2, fun c h => hK c h⟩
    · cases hD
  · exact h.elim
def DqNumber : DSpec := fun ds => match ds with
  | [.sl false .u8 b_n b_c b, .pl (.int .u64 v), .pl (.int .i64 n)] => some ((List.length b = b_n ∧ b_n ≤ 1000000 ∧ 0 ≤ v ∧ v < 2 ^ 64), [.sl .u8 (b_n + Int.toNat (min n 64)) (b ++ (numB v (Int.toNat (min n 64))))], [])
  | _ => none
def conqNumber : Con := ⟨43, dC DqNumber, [], [.ints .u8 0 []]⟩
theorem sqNumber : Sound Try.prog 43 (dS DqNumber) := s43.mono fun args H K h => by
  obtain ⟨ds, rfl, rfl, h⟩ := h
  split at h
  · rename_i pre rs ws hD
    obtain ⟨hpre, hK⟩ := h
    unfold DqNumber at hD
    split at hD
    · cases hD
      exact ⟨false, _, _, _, _, _, rfl, rfl, hpre.1, hpre.2.1, hpre.2.2.1, hpre.2.2.2, fun c h => hK c h⟩
    · cases hD
  · exact h.elim
def DbRead : DSpec := fun ds => match ds with
  | [.sl false .u8 b_n b_c b] => some ((List.length b = b_n ∧ b_n ≤ b_c ∧ b_n ≤ 1000000000 ∧ Byt b), [.pl (.int .u64 (readB (List.take 8 b)))], [])
  | _ => none
def conbRead : Con := ⟨44, dC DbRead, [], [.ints .u8 0 []]⟩
theorem sbRead : Sound Try.prog 44 (dS DbRead) := s44.mono fun args H K h => by
  obtain ⟨ds, rfl, rfl, h⟩ := h
  split at h
  · rename_i pre rs ws hD
    obtain ⟨hpre, hK⟩ := h
    unfold DbRead at hD
    split at hD
    · cases hD
      exact ⟨false, _, _, _, rfl, rfl, hpre.1, hpre.2.1, hpre.2.2.1, hpre.2.2.2, hK⟩
    · cases hD
  · exact h.elim
def DqRead : DSpec := fun ds => match ds with
  | [.sl false .u8 b_n b_c b] => some ((List.length b = b_n ∧ b_n ≤ b_c ∧ b_n ≤ 1000000000 ∧ Byt b), [.pl (.int .u64 (readB (List.take 8 b)))], [])
  | _ => none
def conqRead : Con := ⟨45, dC DqRead, [], [.ints .u8 0 []]⟩
theorem sqRead : Sound Try.prog 45 (dS DqRead) := s45.mono fun args H K h => by
  obtain ⟨ds, rfl, rfl, h⟩ := h
  split at h
  · rename_i pre rs ws hD
    obtain ⟨hpre, hK⟩ := h
    unfold DqRead at hD
    split at hD
    · cases hD
      exact ⟨false, _, _, _, rfl, rfl, hpre.1, hpre.2.1, hpre.2.2.1, hpre.2.2.2, hK⟩
    · cases hD
  · exact h.elim
def DcloneB : DSpec := fun ds => match ds with
  | [.sl false .u8 b_n b_c b] => some ((List.length b = b_n ∧ b_n ≤ 1000000000), [.sl .u8 b_n b], [])
  | _ => none
def concloneB : Con := ⟨150, dC DcloneB, [], [.ints .u8 0 []]⟩
theorem scloneB : Sound Try.prog 150 (dS DcloneB) := s150.mono fun args H K h => by
  obtain ⟨ds, rfl, rfl, h⟩ := h
  split at h
  · rename_i pre rs ws hD
    obtain ⟨hpre, hK⟩ := h
    unfold DcloneB at hD
    split at hD
    · cases hD
      exact ⟨false, _, _, _, rfl, rfl, hpre.1, hpre.2, fun c h => hK c h⟩
    · cases hD
  · exact h.elim
end Go.Proofs.Ytlmcdbgcbmjilaa
