/- Two parts of the proof. -/
import Derived.Test.YtinjdimejijabaaSxT15
import Derived.Test.YtinjdimejijabaaSxLem2
import Derived.Test.YtinjdimejijabaaSxG
import Derived.Test.YtinjdimejijabaaSxT17
set_option linter.unusedVariables false
set_option linter.unusedSimpArgs false
namespace Go.Proofs.Ytinjdimejijabaa
open Go.Sx
end Go.Proofs.Ytinjdimejijabaa

namespace Go.Proofs.Ytinjdimejijabaa
open Go.Sx
end Go.Proofs.Ytinjdimejijabaa

namespace Go.Proofs.Ytinjdimejijabaa
open Go.Sx
def Zn4 : Zfm := fun args => match args with
  | [.agg [.one (.int .i64 p_0), .one (.int .i64 p_1), .one (.int .i64 p_2), .one (.int .i64 p_3), .one (.int .i64 p_4), .one (.int .i64 p_5), .one (.int .u64 p_6), .one (.int .i64 p_7), .one (.int .i64 p_8), .one (.int .i64 p_9), .one (.int .i64 p_10), .one (.int .i64 p_11), .one (.int .i64 p_12), .one (.int .i64 p_13), .ints .u8 p_14_n p_14, .ints .u8 p_15_n p_15]] => bif Nat.beq p_14_n 16 && Nat.beq p_15_n 16 then some (True, .int .i64 (bif PlanV.right (PlanV.mk p_0 p_1 p_2 p_3 p_4 p_5 p_6 p_7 p_8 p_9 p_10 p_11 p_12 p_13 p_14 p_15) then 0 else 4 : Int)) else none
  | _ => none
def Zjx : PCon := ⟨56, Zn4⟩
theorem ZmN : Sound Try.prog 56 (ZeB Zn4) := by
  intro args H K h
  obtain ⟨pre, v, hP, hpre, rfl, hK⟩ := ZbW h
  refine s49 args ⟨0, []⟩ K ?_
  unfold Zn4 at hP
  split at hP
  · obtain ⟨hb, hP⟩ := ZaT hP
    simp only [Bool.and_eq_true] at hb
    obtain ⟨h0, h1⟩ := hb
    obtain rfl := Nat.eq_of_beq_eq_true h0
    obtain rfl := Nat.eq_of_beq_eq_true h1
    cases hP
    exact hK
  · cases hP
def ZwV : Zfm := fun args => match args with
  | [.agg [.one (.int .i64 p_0), .one (.int .i64 p_1), .one (.int .i64 p_2), .one (.int .i64 p_3), .one (.int .i64 p_4), .one (.int .i64 p_5), .one (.int .u64 p_6), .one (.int .i64 p_7), .one (.int .i64 p_8), .one (.int .i64 p_9), .one (.int .i64 p_10), .one (.int .i64 p_11), .one (.int .i64 p_12), .one (.int .i64 p_13), .ints .u8 p_14_n p_14, .ints .u8 p_15_n p_15]] => bif Nat.beq p_14_n 16 && Nat.beq p_15_n 16 then some (True, .int .i64 (PlanV.all (PlanV.mk p_0 p_1 p_2 p_3 p_4 p_5 p_6 p_7 p_8 p_9 p_10 p_11 p_12 p_13 p_14 p_15))) else none
  | _ => none
def Ztw : PCon := ⟨57, ZwV⟩
theorem Zxk : Sound Try.prog 57 (ZeB ZwV) := by
  intro args H K h
  obtain ⟨pre, v, hP, hpre, rfl, hK⟩ := ZbW h
  refine s55 args ⟨0, []⟩ K ?_
  unfold ZwV at hP
  split at hP
  · obtain ⟨hb, hP⟩ := ZaT hP
    simp only [Bool.and_eq_true] at hb
    obtain ⟨h0, h1⟩ := hb
    obtain rfl := Nat.eq_of_beq_eq_true h0
    obtain rfl := Nat.eq_of_beq_eq_true h1
    cases hP
    exact hK
  · cases hP
def Zn3 : Zfm := fun args => match args with
  | [.agg [.one (.int .i64 p_0), .one (.int .i64 p_1), .one (.int .i64 p_2), .one (.int .i64 p_3), .one (.int .i64 p_4), .one (.int .i64 p_5), .one (.int .u64 p_6), .one (.int .i64 p_7), .one (.int .i64 p_8), .one (.int .i64 p_9), .one (.int .i64 p_10), .one (.int .i64 p_11), .one (.int .i64 p_12), .one (.int .i64 p_13), .ints .u8 p_14_n p_14, .ints .u8 p_15_n p_15]] => bif Nat.beq p_14_n 16 && Nat.beq p_15_n 16 then some (True, .int .i64 (PlanV.least (PlanV.mk p_0 p_1 p_2 p_3 p_4 p_5 p_6 p_7 p_8 p_9 p_10 p_11 p_12 p_13 p_14 p_15))) else none
  | _ => none
def ZsP : PCon := ⟨55, Zn3⟩
theorem Zub : Sound Try.prog 55 (ZeB Zn3) := by
  intro args H K h
  obtain ⟨pre, v, hP, hpre, rfl, hK⟩ := ZbW h
  refine s58 args ⟨0, []⟩ K ?_
  unfold Zn3 at hP
  split at hP
  · obtain ⟨hb, hP⟩ := ZaT hP
    simp only [Bool.and_eq_true] at hb
    obtain ⟨h0, h1⟩ := hb
    obtain rfl := Nat.eq_of_beq_eq_true h0
    obtain rfl := Nat.eq_of_beq_eq_true h1
    cases hP
    exact hK
  · cases hP
end Go.Proofs.Ytinjdimejijabaa
