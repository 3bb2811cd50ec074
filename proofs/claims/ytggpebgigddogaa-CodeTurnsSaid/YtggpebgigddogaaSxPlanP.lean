/- Two parts of the proof. -/
import Derived.Test.YtggpebgigddogaaSxT15
import Derived.Test.YtggpebgigddogaaSxLem
import Derived.Test.YtggpebgigddogaaSxV0
import Derived.Test.YtggpebgigddogaaSxT17
import Derived.Test.YtggpebgigddogaaSxT16
namespace Go.Proofs.Ytggpebgigddogaa
open Go.Sx
def S48 : Sx.Spec := fun args H K => match args with
  | [] => noH H (K (.bool true) ⟨0, []⟩)
  | _ => False
end Go.Proofs.Ytggpebgigddogaa

namespace Go.Proofs.Ytggpebgigddogaa
open Go.Sx
def PpCheck : PSpec := fun args => match args with
  | [.agg [.one (.int .i64 p_0), .one (.int .i64 p_1), .one (.int .i64 p_2), .one (.int .i64 p_3), .one (.int .i64 p_4), .one (.int .i64 p_5), .one (.int .u64 p_6), .one (.int .i64 p_7), .one (.int .i64 p_8), .one (.int .i64 p_9), .one (.int .i64 p_10), .one (.int .i64 p_11), .one (.int .i64 p_12), .one (.int .i64 p_13), .ints .u8 p_14_n p_14, .ints .u8 p_15_n p_15]] => bif Nat.beq p_14_n 16 && Nat.beq p_15_n 16 then some (True, .int .i64 (bif PlanV.right (PlanV.mk p_0 p_1 p_2 p_3 p_4 p_5 p_6 p_7 p_8 p_9 p_10 p_11 p_12 p_13 p_14 p_15) then 0 else 4 : Int)) else none
  | _ => none
def pcpCheck : PCon := ⟨55, PpCheck⟩
theorem spCheck : Sound Try.prog 55 (pureS PpCheck) := by
  intro args H K h
  obtain ⟨pre, v, hP, hpre, rfl, hK⟩ := pureS_inv h
  refine s49 args ⟨0, []⟩ K ?_
  unfold PpCheck at hP
  split at hP
  · obtain ⟨hb, hP⟩ := bif_some hP
    simp only [Bool.and_eq_true] at hb
    obtain ⟨h0, h1⟩ := hb
    obtain rfl := Nat.eq_of_beq_eq_true h0
    obtain rfl := Nat.eq_of_beq_eq_true h1
    cases hP
    exact hK
  · cases hP
def PpLevels : PSpec := fun args => match args with
  | [.agg [.one (.int .i64 p_0), .one (.int .i64 p_1), .one (.int .i64 p_2), .one (.int .i64 p_3), .one (.int .i64 p_4), .one (.int .i64 p_5), .one (.int .u64 p_6), .one (.int .i64 p_7), .one (.int .i64 p_8), .one (.int .i64 p_9), .one (.int .i64 p_10), .one (.int .i64 p_11), .one (.int .i64 p_12), .one (.int .i64 p_13), .ints .u8 p_14_n p_14, .ints .u8 p_15_n p_15]] => bif Nat.beq p_14_n 16 && Nat.beq p_15_n 16 then some (True, .int .i64 ((PlanV.levels (PlanV.mk p_0 p_1 p_2 p_3 p_4 p_5 p_6 p_7 p_8 p_9 p_10 p_11 p_12 p_13 p_14 p_15) : Nat) : Int)) else none
  | _ => none
def pcpLevels : PCon := ⟨75, PpLevels⟩
theorem spLevels : Sound Try.prog 75 (pureS PpLevels) := by
  intro args H K h
  obtain ⟨pre, v, hP, hpre, rfl, hK⟩ := pureS_inv h
  refine s51 args ⟨0, []⟩ K ?_
  unfold PpLevels at hP
  split at hP
  · obtain ⟨hb, hP⟩ := bif_some hP
    simp only [Bool.and_eq_true] at hb
    obtain ⟨h0, h1⟩ := hb
    obtain rfl := Nat.eq_of_beq_eq_true h0
    obtain rfl := Nat.eq_of_beq_eq_true h1
    cases hP
    exact hK
  · cases hP
def PpLeast : PSpec := fun args => match args with
  | [.agg [.one (.int .i64 p_0), .one (.int .i64 p_1), .one (.int .i64 p_2), .one (.int .i64 p_3), .one (.int .i64 p_4), .one (.int .i64 p_5), .one (.int .u64 p_6), .one (.int .i64 p_7), .one (.int .i64 p_8), .one (.int .i64 p_9), .one (.int .i64 p_10), .one (.int .i64 p_11), .one (.int .i64 p_12), .one (.int .i64 p_13), .ints .u8 p_14_n p_14, .ints .u8 p_15_n p_15]] => bif Nat.beq p_14_n 16 && Nat.beq p_15_n 16 then some (True, .int .i64 (PlanV.least (PlanV.mk p_0 p_1 p_2 p_3 p_4 p_5 p_6 p_7 p_8 p_9 p_10 p_11 p_12 p_13 p_14 p_15))) else none
  | _ => none
def pcpLeast : PCon := ⟨70, PpLeast⟩
theorem spLeast : Sound Try.prog 70 (pureS PpLeast) := by
  intro args H K h
  obtain ⟨pre, v, hP, hpre, rfl, hK⟩ := pureS_inv h
  refine s57 args ⟨0, []⟩ K ?_
  unfold PpLeast at hP
  split at hP
  · obtain ⟨hb, hP⟩ := bif_some hP
    simp only [Bool.and_eq_true] at hb
    obtain ⟨h0, h1⟩ := hb
    obtain rfl := Nat.eq_of_beq_eq_true h0
    obtain rfl := Nat.eq_of_beq_eq_true h1
    cases hP
    exact hK
  · cases hP
def PqRight : PSpec := fun args => match args with
  | [.agg [.one (.int .i64 p_0), .one (.int .i64 p_1), .one (.int .i64 p_2), .one (.int .i64 p_3), .one (.int .i64 p_4), .one (.int .i64 p_5), .one (.int .u64 p_6), .one (.int .i64 p_7), .one (.int .i64 p_8), .one (.int .i64 p_9), .one (.int .i64 p_10), .one (.int .i64 p_11), .one (.int .i64 p_12), .one (.int .i64 p_13), .ints .u8 p_14_n p_14, .ints .u8 p_15_n p_15]] => bif Nat.beq p_14_n 16 && Nat.beq p_15_n 16 then some (True, .bool (PlanV.right (PlanV.mk p_0 p_1 p_2 p_3 p_4 p_5 p_6 p_7 p_8 p_9 p_10 p_11 p_12 p_13 p_14 p_15))) else none
  | _ => none
def pcqRight : PCon := ⟨45, PqRight⟩
theorem sqRight : Sound Try.prog 45 (pureS PqRight) := by
  intro args H K h
  obtain ⟨pre, v, hP, hpre, rfl, hK⟩ := pureS_inv h
  refine s50 args ⟨0, []⟩ K ?_
  unfold PqRight at hP
  split at hP
  · obtain ⟨hb, hP⟩ := bif_some hP
    simp only [Bool.and_eq_true] at hb
    obtain ⟨h0, h1⟩ := hb
    obtain rfl := Nat.eq_of_beq_eq_true h0
    obtain rfl := Nat.eq_of_beq_eq_true h1
    cases hP
    exact hK
  · cases hP
def PqLevels : PSpec := fun args => match args with
  | [.agg [.one (.int .i64 p_0), .one (.int .i64 p_1), .one (.int .i64 p_2), .one (.int .i64 p_3), .one (.int .i64 p_4), .one (.int .i64 p_5), .one (.int .u64 p_6), .one (.int .i64 p_7), .one (.int .i64 p_8), .one (.int .i64 p_9), .one (.int .i64 p_10), .one (.int .i64 p_11), .one (.int .i64 p_12), .one (.int .i64 p_13), .ints .u8 p_14_n p_14, .ints .u8 p_15_n p_15]] => bif Nat.beq p_14_n 16 && Nat.beq p_15_n 16 then some (True, .int .i64 ((PlanV.levels (PlanV.mk p_0 p_1 p_2 p_3 p_4 p_5 p_6 p_7 p_8 p_9 p_10 p_11 p_12 p_13 p_14 p_15) : Nat) : Int)) else none
  | _ => none
def pcqLevels : PCon := ⟨65, PqLevels⟩
theorem sqLevels : Sound Try.prog 65 (pureS PqLevels) := by
  intro args H K h
  obtain ⟨pre, v, hP, hpre, rfl, hK⟩ := pureS_inv h
  refine s52 args ⟨0, []⟩ K ?_
  unfold PqLevels at hP
  split at hP
  · obtain ⟨hb, hP⟩ := bif_some hP
    simp only [Bool.and_eq_true] at hb
    obtain ⟨h0, h1⟩ := hb
    obtain rfl := Nat.eq_of_beq_eq_true h0
    obtain rfl := Nat.eq_of_beq_eq_true h1
    cases hP
    exact hK
  · cases hP
def PqWidth : PSpec := fun args => match args with
  | [.agg [.one (.int .i64 p_0), .one (.int .i64 p_1), .one (.int .i64 p_2), .one (.int .i64 p_3), .one (.int .i64 p_4), .one (.int .i64 p_5), .one (.int .u64 p_6), .one (.int .i64 p_7), .one (.int .i64 p_8), .one (.int .i64 p_9), .one (.int .i64 p_10), .one (.int .i64 p_11), .one (.int .i64 p_12), .one (.int .i64 p_13), .ints .u8 p_14_n p_14, .ints .u8 p_15_n p_15], .int .i64 l] => bif Nat.beq p_14_n 16 && Nat.beq p_15_n 16 then some (True, .int .i64 (PlanV.width (PlanV.mk p_0 p_1 p_2 p_3 p_4 p_5 p_6 p_7 p_8 p_9 p_10 p_11 p_12 p_13 p_14 p_15) l)) else none
  | _ => none
def pcqWidth : PCon := ⟨74, PqWidth⟩
theorem sqWidth : Sound Try.prog 74 (pureS PqWidth) := by
  intro args H K h
  obtain ⟨pre, v, hP, hpre, rfl, hK⟩ := pureS_inv h
  refine s54 args ⟨0, []⟩ K ?_
  unfold PqWidth at hP
  split at hP
  · obtain ⟨hb, hP⟩ := bif_some hP
    simp only [Bool.and_eq_true] at hb
    obtain ⟨h0, h1⟩ := hb
    obtain rfl := Nat.eq_of_beq_eq_true h0
    obtain rfl := Nat.eq_of_beq_eq_true h1
    cases hP
    exact hK
  · cases hP
def PqLeast : PSpec := fun args => match args with
  | [.agg [.one (.int .i64 p_0), .one (.int .i64 p_1), .one (.int .i64 p_2), .one (.int .i64 p_3), .one (.int .i64 p_4), .one (.int .i64 p_5), .one (.int .u64 p_6), .one (.int .i64 p_7), .one (.int .i64 p_8), .one (.int .i64 p_9), .one (.int .i64 p_10), .one (.int .i64 p_11), .one (.int .i64 p_12), .one (.int .i64 p_13), .ints .u8 p_14_n p_14, .ints .u8 p_15_n p_15]] => bif Nat.beq p_14_n 16 && Nat.beq p_15_n 16 then some (True, .int .i64 (PlanV.least (PlanV.mk p_0 p_1 p_2 p_3 p_4 p_5 p_6 p_7 p_8 p_9 p_10 p_11 p_12 p_13 p_14 p_15))) else none
  | _ => none
def pcqLeast : PCon := ⟨44, PqLeast⟩
theorem sqLeast : Sound Try.prog 44 (pureS PqLeast) := by
  intro args H K h
  obtain ⟨pre, v, hP, hpre, rfl, hK⟩ := pureS_inv h
  refine s58 args ⟨0, []⟩ K ?_
  unfold PqLeast at hP
  split at hP
  · obtain ⟨hb, hP⟩ := bif_some hP
    simp only [Bool.and_eq_true] at hb
    obtain ⟨h0, h1⟩ := hb
    obtain rfl := Nat.eq_of_beq_eq_true h0
    obtain rfl := Nat.eq_of_beq_eq_true h1
    cases hP
    exact hK
  · cases hP
end Go.Proofs.Ytggpebgigddogaa
