/- Walks, printed by vcg. -/
import Derived.Test.YtlmcdbgcbmjilaaSxPlanP
import Derived.Test.YtlmcdbgcbmjilaaSxRegion
import Derived.KernelRfl
set_option linter.unusedVariables false
set_option linter.unusedSimpArgs false
namespace Go.Proofs.Ytlmcdbgcbmjilaa
open Go.Sx
def PrRight : PSpec := fun args => match args with
  | [.agg [.one (.int .i64 p_0), .one (.int .i64 p_1), .one (.int .i64 p_2), .one (.int .i64 p_3), .one (.int .i64 p_4), .one (.int .i64 p_5), .one (.int .u64 p_6), .one (.int .i64 p_7), .one (.int .i64 p_8), .one (.int .i64 p_9), .one (.int .i64 p_10), .one (.int .i64 p_11), .one (.int .i64 p_12), .one (.int .i64 p_13), .ints .u8 p_14_n p_14, .ints .u8 p_15_n p_15]] => bif Nat.beq p_14_n 16 && Nat.beq p_15_n 16 then some (True, .bool (PlanV.right (PlanV.mk p_0 p_1 p_2 p_3 p_4 p_5 p_6 p_7 p_8 p_9 p_10 p_11 p_12 p_13 p_14 p_15))) else none
  | _ => none
def pcrRight : PCon := ⟨171, PrRight⟩
def crRight_n0 : ACode := .reg (.op (some 1) (.box (.tm 0)) (.op (some 2) (.mov (.cn (.bool false))) .nil))
def crRight_n1 : ACode := .reg (.op (some 3) (.loadA 46 (.tm 1)) (.op (some 4) (.call 49 [(.tm 3)]) (.op (some 5) (.bin .eql (.tm 4) (.cn (.int .i64 0))) (.op (some 2) (.mov (.tm 5)) .nil))))
def crRight : ACode := (.seq crRight_n0 (.seq crRight_n1 .ret))
def RrRight : Res := .one (.tm 2)
theorem crRight_fits : fnFits Try.prog 171 1 6 crRight RrRight = true := by kernel_rfl
def GrRight : Calls' := withP [pcpCheck] []
theorem hGrRight : CallOk Try.prog GrRight := withP_ok ⟨spCheck, trivial⟩ trivial
section
variable {w0 : World} {fp : Nat → Nat → Prop} {ρi : Rho} {Kf : SVal → Heap → Prop}
theorem rrRight_0 (p : PlanV) (Z : Env → Heap → Prop) (h : (True) ∧ Z [(2, some (.bool ((bif PlanV.right p then 0 else 4 : Int) == 0)))] ⟨1, []⟩) : EvC GrRight crRight_n1 [(1, some (.ptr ⟨0, 0, 0, 1⟩ 46))] ⟨1, [(0, some ⟨true, (PlanV.cs p), 0⟩)]⟩ [2] [] Z := EvC.of (by kernel_rfl) h
theorem rtrRight_0 (p : PlanV) : RetC RrRight [(2, some (.bool ((bif PlanV.right p then 0 else 4 : Int) == 0)))] ⟨1, []⟩ (.bool ((bif PlanV.right p then 0 else 4 : Int) == 0)) := RetC.of (fun Z => by kernel_rfl)
def vrRight_0 (p : PlanV) : Prop := ((bif PlanV.right p then 0 else 4 : Int) == 0) = (PlanV.right p)
theorem prRight_0 (p : PlanV) (hK : Kf (.bool (PlanV.right p)) ⟨0, []⟩) (h : vrRight_0 p) : SemL Try.prog w0 fp ρi 0 6 [crRight_n1, .ret] [(1, some (.ptr ⟨0, 0, 0, 1⟩ 46))] ⟨1, [(0, some ⟨true, (PlanV.cs p), 0⟩)]⟩ (fnK RrRight 0 Kf) :=
  L_regE hGrRight (rrRight_0 p (fun e H => SemL Try.prog w0 fp ρi 0 6 [.ret] e H (fnK RrRight 0 Kf)) ⟨True.intro, (L_retE (R := RrRight) (m := 0) (Kf := Kf) (fun _ _ h => h) (rtrRight_0 p) (ret_plain rfl (by kernel_rfl) (cg1 (fun (z1 : Bool) => (.bool z1 : SVal)) h) hK))⟩)
theorem rrRight_1 (p : PlanV) (Z : Env → Heap → Prop) (h : Z [(1, some (.ptr ⟨0, 0, 0, 1⟩ 46))] ⟨1, [(0, some ⟨true, (PlanV.cs p), 0⟩)]⟩) : EvC GrRight crRight_n0 [(0, some (.agg (PlanV.cs p)))] ⟨0, []⟩ [1] [0] Z := EvC.of (by kernel_rfl) h
def vrRight_1 (p : PlanV) : Prop := vrRight_0 p
theorem prRight_1 (p : PlanV) (hK : Kf (.bool (PlanV.right p)) ⟨0, []⟩) (h : vrRight_1 p) : SemL Try.prog w0 fp ρi 0 6 [crRight_n0, (.seq crRight_n1 .ret)] [(0, some (.agg (PlanV.cs p)))] ⟨0, []⟩ (fnK RrRight 0 Kf) :=
  L_regE hGrRight (rrRight_1 p (fun e H => SemL Try.prog w0 fp ρi 0 6 [(.seq crRight_n1 .ret)] e H (fnK RrRight 0 Kf)) (L_seq (prRight_0 p hK h)))
def vcrRight (p : PlanV) : Prop := vrRight_1 p
theorem wrRight (p : PlanV) (hK : Kf (.bool (PlanV.right p)) ⟨0, []⟩) (h : vcrRight p) : SemL Try.prog w0 fp ρi 0 6 [crRight] [(0, some (.agg (PlanV.cs p)))] ⟨0, []⟩ (fnK RrRight 0 Kf) :=
  (L_seq (prRight_1 p hK h))
end
theorem okrRight (p : PlanV) (hpre : True) : vcrRight p := by
  unfold vcrRight vrRight_1 vrRight_0
  cases PlanV.right p <;> rfl
theorem srRight : Sound Try.prog 171 (pureS PrRight) := by
  refine fn_soundA crRight_fits ?_
  intro args H K h
  obtain ⟨pre, v, hP, hpre, rfl, hK⟩ := pureS_inv h
  unfold PrRight at hP
  split at hP
  · obtain ⟨hb, hP⟩ := bif_some hP
    simp only [Bool.and_eq_true] at hb
    obtain ⟨h0, h1⟩ := hb
    obtain rfl := Nat.eq_of_beq_eq_true h0
    obtain rfl := Nat.eq_of_beq_eq_true h1
    cases hP
    exact ⟨rfl, fun w0 fp ρi => wrRight (PlanV.mk _ _ _ _ _ _ _ _ _ _ _ _ _ _ _ _) hK (okrRight (PlanV.mk _ _ _ _ _ _ _ _ _ _ _ _ _ _ _ _) hpre)⟩
  · cases hP
def PrTags : PSpec := fun args => match args with
  | [.agg [.one (.int .i64 p_0), .one (.int .i64 p_1), .one (.int .i64 p_2), .one (.int .i64 p_3), .one (.int .i64 p_4), .one (.int .i64 p_5), .one (.int .u64 p_6), .one (.int .i64 p_7), .one (.int .i64 p_8), .one (.int .i64 p_9), .one (.int .i64 p_10), .one (.int .i64 p_11), .one (.int .i64 p_12), .one (.int .i64 p_13), .ints .u8 p_14_n p_14, .ints .u8 p_15_n p_15]] => bif Nat.beq p_14_n 16 && Nat.beq p_15_n 16 then some (True, .int .i64 (PlanV.tags (PlanV.mk p_0 p_1 p_2 p_3 p_4 p_5 p_6 p_7 p_8 p_9 p_10 p_11 p_12 p_13 p_14 p_15))) else none
  | _ => none
def pcrTags : PCon := ⟨172, PrTags⟩
def crTags_n0 : ACode := .reg (.op (some 1) (.box (.tm 0)) (.op (some 2) (.mov (.cn (.int .i64 0))) .nil))
def crTags_n1 : ACode := .reg (.op (some 3) (.loadA 46 (.tm 1)) (.op (some 4) (.call 55 [(.tm 3)]) (.op (some 5) (.bin .mul (.tm 4) (.cn (.int .i64 32))) (.op (some 2) (.mov (.tm 5)) .nil))))
def crTags : ACode := (.seq crTags_n0 (.seq crTags_n1 .ret))
def RrTags : Res := .one (.tm 2)
theorem crTags_fits : fnFits Try.prog 172 1 6 crTags RrTags = true := by kernel_rfl
def GrTags : Calls' := withP [pcpAll] []
theorem hGrTags : CallOk Try.prog GrTags := withP_ok ⟨spAll, trivial⟩ trivial
section
variable {w0 : World} {fp : Nat → Nat → Prop} {ρi : Rho} {Kf : SVal → Heap → Prop}
theorem rrTags_0 (p : PlanV) (Z : Env → Heap → Prop) (h : (True) ∧ Z [(2, some (.int .i64 (IntKind.i64.wrap ((PlanV.all p) * 32))))] ⟨1, []⟩) : EvC GrTags crTags_n1 [(1, some (.ptr ⟨0, 0, 0, 1⟩ 46))] ⟨1, [(0, some ⟨true, (PlanV.cs p), 0⟩)]⟩ [2] [] Z := EvC.of (by kernel_rfl) h
theorem rtrTags_0 (p : PlanV) : RetC RrTags [(2, some (.int .i64 (IntKind.i64.wrap ((PlanV.all p) * 32))))] ⟨1, []⟩ (.int .i64 (IntKind.i64.wrap ((PlanV.all p) * 32))) := RetC.of (fun Z => by kernel_rfl)
def vrTags_0 (p : PlanV) : Prop := (IntKind.i64.wrap ((PlanV.all p) * 32)) = (PlanV.tags p)
theorem prTags_0 (p : PlanV) (hK : Kf (.int .i64 (PlanV.tags p)) ⟨0, []⟩) (h : vrTags_0 p) : SemL Try.prog w0 fp ρi 0 6 [crTags_n1, .ret] [(1, some (.ptr ⟨0, 0, 0, 1⟩ 46))] ⟨1, [(0, some ⟨true, (PlanV.cs p), 0⟩)]⟩ (fnK RrTags 0 Kf) :=
  L_regE hGrTags (rrTags_0 p (fun e H => SemL Try.prog w0 fp ρi 0 6 [.ret] e H (fnK RrTags 0 Kf)) ⟨True.intro, (L_retE (R := RrTags) (m := 0) (Kf := Kf) (fun _ _ h => h) (rtrTags_0 p) (ret_plain rfl (by kernel_rfl) (cg1 (fun (z1 : Int) => (.int .i64 z1 : SVal)) h) hK))⟩)
theorem rrTags_1 (p : PlanV) (Z : Env → Heap → Prop) (h : Z [(1, some (.ptr ⟨0, 0, 0, 1⟩ 46))] ⟨1, [(0, some ⟨true, (PlanV.cs p), 0⟩)]⟩) : EvC GrTags crTags_n0 [(0, some (.agg (PlanV.cs p)))] ⟨0, []⟩ [1] [0] Z := EvC.of (by kernel_rfl) h
def vrTags_1 (p : PlanV) : Prop := vrTags_0 p
theorem prTags_1 (p : PlanV) (hK : Kf (.int .i64 (PlanV.tags p)) ⟨0, []⟩) (h : vrTags_1 p) : SemL Try.prog w0 fp ρi 0 6 [crTags_n0, (.seq crTags_n1 .ret)] [(0, some (.agg (PlanV.cs p)))] ⟨0, []⟩ (fnK RrTags 0 Kf) :=
  L_regE hGrTags (rrTags_1 p (fun e H => SemL Try.prog w0 fp ρi 0 6 [(.seq crTags_n1 .ret)] e H (fnK RrTags 0 Kf)) (L_seq (prTags_0 p hK h)))
def vcrTags (p : PlanV) : Prop := vrTags_1 p
theorem wrTags (p : PlanV) (hK : Kf (.int .i64 (PlanV.tags p)) ⟨0, []⟩) (h : vcrTags p) : SemL Try.prog w0 fp ρi 0 6 [crTags] [(0, some (.agg (PlanV.cs p)))] ⟨0, []⟩ (fnK RrTags 0 Kf) :=
  (L_seq (prTags_1 p hK h))
end
theorem okrTags (p : PlanV) (hpre : True) : vcrTags p := by
  unfold vcrTags vrTags_1 vrTags_0
  have := p.all_le
  unfold PlanV.tags
  rw [wi64]; omega
theorem srTags : Sound Try.prog 172 (pureS PrTags) := by
  refine fn_soundA crTags_fits ?_
  intro args H K h
  obtain ⟨pre, v, hP, hpre, rfl, hK⟩ := pureS_inv h
  unfold PrTags at hP
  split at hP
  · obtain ⟨hb, hP⟩ := bif_some hP
    simp only [Bool.and_eq_true] at hb
    obtain ⟨h0, h1⟩ := hb
    obtain rfl := Nat.eq_of_beq_eq_true h0
    obtain rfl := Nat.eq_of_beq_eq_true h1
    cases hP
    exact ⟨rfl, fun w0 fp ρi => wrTags (PlanV.mk _ _ _ _ _ _ _ _ _ _ _ _ _ _ _ _) hK (okrTags (PlanV.mk _ _ _ _ _ _ _ _ _ _ _ _ _ _ _ _) hpre)⟩
  · cases hP
end Go.Proofs.Ytlmcdbgcbmjilaa
