/- Part of the proof: SxRegV. -/
import Derived.Test.YtinjdimejijabaaSxPlanP
import Derived.Test.YtinjdimejijabaaSxRegion
import Derived.KernelRfl
set_option linter.unusedVariables false
set_option linter.unusedSimpArgs false
set_option maxRecDepth 20000
namespace Go.Proofs.Ytinjdimejijabaa
open Go.Sx
def Zsr : Zez := fun args => match args with
  | [.agg [.one (.int .i64 p_0), .one (.int .i64 p_1), .one (.int .i64 p_2), .one (.int .i64 p_3), .one (.int .i64 p_4), .one (.int .i64 p_5), .one (.int .u64 p_6), .one (.int .i64 p_7), .one (.int .i64 p_8), .one (.int .i64 p_9), .one (.int .i64 p_10), .one (.int .i64 p_11), .one (.int .i64 p_12), .one (.int .i64 p_13), .ints .u8 p_14_n p_14, .ints .u8 p_15_n p_15]] => bif Nat.beq p_14_n 16 && Nat.beq p_15_n 16 then some (True, .bool (PlanV.right (PlanV.mk p_0 p_1 p_2 p_3 p_4 p_5 p_6 p_7 p_8 p_9 p_10 p_11 p_12 p_13 p_14 p_15))) else none
  | _ => none
def ZAo : PCon := ⟨85, Zsr⟩
def Zq1 : ACode := .reg (.op (some 1) (.box (.tm 0)) (.op (some 2) (.mov (.cn (.bool false))) .nil))
def ZmA : ACode := .reg (.op (some 3) (.loadA 46 (.tm 1)) (.op (some 4) (.call 56 [(.tm 3)]) (.op (some 5) (.bin .eql (.tm 4) (.cn (.int .i64 0))) (.op (some 2) (.mov (.tm 5)) .nil))))
def ZyA : ACode := (.seq Zq1 (.seq ZmA .ret))
def ZiZ : Res := .one (.tm 2)
theorem ZoF : ZbD Try.prog 85 1 6 ZyA ZiZ = true := by kernel_rfl
def Zsy : Za8 := ZdW [Zmc] []
theorem Ztf : Za9 Try.prog Zsy := ZbI ⟨ZqJ, trivial⟩ trivial
section
variable {w0 : World} {fp : Nat -> Nat -> Prop} {ρi : Rho} {Kf : SVal -> Heap -> Prop}
abbrev Yb0 (x0 : PlanV) : Env := [(2, some (.bool ((bif PlanV.right x0 then 0 else 4 : Int) == 0)))]
abbrev Yb1 : Env := [(1, some (.ptr ⟨0, 0, 0, 1⟩ 46))]
abbrev Yb2 (x0 : PlanV) : Heap := ⟨1, [(0, some ⟨true, (PlanV.cs x0), 0⟩)]⟩
theorem ZG9 (p : PlanV) (Z : Env -> Heap -> Prop) (h : (True) /\ Z (Yb0 p) ⟨1, []⟩) : EvC Zsy ZmA Yb1 (Yb2 p) [2] [] Z := EvC.of (by kernel_rfl) h
theorem ZDo (p : PlanV) : RetC ZiZ (Yb0 p) ⟨1, []⟩ (.bool ((bif PlanV.right p then 0 else 4 : Int) == 0)) := RetC.of (fun Z => by kernel_rfl)
def Zuz (p : PlanV) : Prop := ((bif PlanV.right p then 0 else 4 : Int) == 0) = (PlanV.right p)
theorem ZJH (p : PlanV) (hK : Kf (.bool (PlanV.right p)) ⟨0, []⟩) (h : Zuz p) : SemL Try.prog w0 fp ρi 0 6 [ZmA, .ret] Yb1 (Yb2 p) (fnK ZiZ 0 Kf) :=
  Zae Ztf (ZG9 p _ ⟨True.intro, (Zba (R := ZiZ) (m := 0) (Kf := Kf) (fun _ _ h => h) (ZDo p) (Za3 rfl (by kernel_rfl) (cg1 (fun (z1 : Bool) => (.bool z1 : SVal)) h) hK))⟩)
abbrev Yb3 (x0 : PlanV) : Env := [(0, some (.agg (PlanV.cs x0)))]
theorem ZG8 (p : PlanV) (Z : Env -> Heap -> Prop) (h : Z Yb1 (Yb2 p)) : EvC Zsy Zq1 (Yb3 p) ⟨0, []⟩ [1] [0] Z := EvC.of (by kernel_rfl) h
def Zuy (p : PlanV) : Prop := Zuz p
theorem ZJG (p : PlanV) (hK : Kf (.bool (PlanV.right p)) ⟨0, []⟩) (h : Zuy p) : SemL Try.prog w0 fp ρi 0 6 [Zq1, (.seq ZmA .ret)] (Yb3 p) ⟨0, []⟩ (fnK ZiZ 0 Kf) :=
  Zae Ztf (ZG8 p _ (Zag (ZJH p hK h)))
def ZlX (p : PlanV) : Prop := Zuy p
theorem ZBS (p : PlanV) (hK : Kf (.bool (PlanV.right p)) ⟨0, []⟩) (h : ZlX p) : SemL Try.prog w0 fp ρi 0 6 [ZyA] (Yb3 p) ⟨0, []⟩ (fnK ZiZ 0 Kf) :=
  (Zag (ZJG p hK h))
end
theorem ZAu (p : PlanV) (hpre : True) : ZlX p := by
  unfold ZlX Zuy Zuz
  cases PlanV.right p <;> rfl
theorem ZCb : Sound Try.prog 85 (Zed Zsr) := by
  refine Zbx ZoF ?_
  intro args H K h
  obtain ⟨pre, v, hP, hpre, rfl, hK⟩ := ZbH h
  unfold Zsr at hP
  split at hP
  · obtain ⟨hb, hP⟩ := ZaP hP
    simp only [Bool.and_eq_true] at hb
    obtain ⟨h0, h1⟩ := hb
    obtain rfl := Nat.eq_of_beq_eq_true h0
    obtain rfl := Nat.eq_of_beq_eq_true h1
    cases hP
    exact ⟨rfl, fun w0 fp ρi => ZBS (PlanV.mk _ _ _ _ _ _ _ _ _ _ _ _ _ _ _ _) hK (ZAu (PlanV.mk _ _ _ _ _ _ _ _ _ _ _ _ _ _ _ _) hpre)⟩
  · cases hP
def Zy5 : Zez := fun args => match args with
  | [.agg [.one (.int .i64 p_0), .one (.int .i64 p_1), .one (.int .i64 p_2), .one (.int .i64 p_3), .one (.int .i64 p_4), .one (.int .i64 p_5), .one (.int .u64 p_6), .one (.int .i64 p_7), .one (.int .i64 p_8), .one (.int .i64 p_9), .one (.int .i64 p_10), .one (.int .i64 p_11), .one (.int .i64 p_12), .one (.int .i64 p_13), .ints .u8 p_14_n p_14, .ints .u8 p_15_n p_15]] => bif Nat.beq p_14_n 16 && Nat.beq p_15_n 16 then some (True, .int .i64 (PlanV.tags (PlanV.mk p_0 p_1 p_2 p_3 p_4 p_5 p_6 p_7 p_8 p_9 p_10 p_11 p_12 p_13 p_14 p_15))) else none
  | _ => none
def ZFU : PCon := ⟨86, Zy5⟩
def Zq0 : ACode := .reg (.op (some 1) (.box (.tm 0)) (.op (some 2) (.mov (.cn (.int .i64 0))) .nil))
def Zmz : ACode := .reg (.op (some 3) (.loadA 46 (.tm 1)) (.op (some 4) (.call 57 [(.tm 3)]) (.op (some 5) (.bin .mul (.tm 4) (.cn (.int .i64 32))) (.op (some 2) (.mov (.tm 5)) .nil))))
def ZBx : ACode := (.seq Zq0 (.seq Zmz .ret))
def Zlq : Res := .one (.tm 2)
theorem Zse : ZbD Try.prog 86 1 6 ZBx Zlq = true := by kernel_rfl
def Zy9 : Za8 := ZdW [ZBj] []
theorem Zyf : Za9 Try.prog Zy9 := ZbI ⟨ZGV, trivial⟩ trivial
section
variable {w0 : World} {fp : Nat -> Nat -> Prop} {ρi : Rho} {Kf : SVal -> Heap -> Prop}
abbrev Yb4 (x0 : PlanV) : Env := [(2, some (.int .i64 (IntKind.i64.wrap ((PlanV.all x0) * 32))))]
theorem ZG7 (p : PlanV) (Z : Env -> Heap -> Prop) (h : (True) /\ Z (Yb4 p) ⟨1, []⟩) : EvC Zy9 Zmz Yb1 (Yb2 p) [2] [] Z := EvC.of (by kernel_rfl) h
theorem ZDn (p : PlanV) : RetC Zlq (Yb4 p) ⟨1, []⟩ (.int .i64 (IntKind.i64.wrap ((PlanV.all p) * 32))) := RetC.of (fun Z => by kernel_rfl)
def Zux (p : PlanV) : Prop := (IntKind.i64.wrap ((PlanV.all p) * 32)) = (PlanV.tags p)
theorem ZJF (p : PlanV) (hK : Kf (.int .i64 (PlanV.tags p)) ⟨0, []⟩) (h : Zux p) : SemL Try.prog w0 fp ρi 0 6 [Zmz, .ret] Yb1 (Yb2 p) (fnK Zlq 0 Kf) :=
  Zae Zyf (ZG7 p _ ⟨True.intro, (Zba (R := Zlq) (m := 0) (Kf := Kf) (fun _ _ h => h) (ZDn p) (Za3 rfl (by kernel_rfl) (cg1 (fun (z1 : Int) => (.int .i64 z1 : SVal)) h) hK))⟩)
theorem ZG6 (p : PlanV) (Z : Env -> Heap -> Prop) (h : Z Yb1 (Yb2 p)) : EvC Zy9 Zq0 (Yb3 p) ⟨0, []⟩ [1] [0] Z := EvC.of (by kernel_rfl) h
def Zuw (p : PlanV) : Prop := Zux p
theorem ZJE (p : PlanV) (hK : Kf (.int .i64 (PlanV.tags p)) ⟨0, []⟩) (h : Zuw p) : SemL Try.prog w0 fp ρi 0 6 [Zq0, (.seq Zmz .ret)] (Yb3 p) ⟨0, []⟩ (fnK Zlq 0 Kf) :=
  Zae Zyf (ZG6 p _ (Zag (ZJF p hK h)))
def ZqF (p : PlanV) : Prop := Zuw p
theorem ZGJ (p : PlanV) (hK : Kf (.int .i64 (PlanV.tags p)) ⟨0, []⟩) (h : ZqF p) : SemL Try.prog w0 fp ρi 0 6 [ZBx] (Yb3 p) ⟨0, []⟩ (fnK Zlq 0 Kf) :=
  (Zag (ZJE p hK h))
end
theorem ZFZ (p : PlanV) (hpre : True) : ZqF p := by
  unfold ZqF Zuw Zux
  have := p.all_le
  unfold PlanV.tags
  rw [Zhl]; omega
theorem ZGT : Sound Try.prog 86 (Zed Zy5) := by
  refine Zbx Zse ?_
  intro args H K h
  obtain ⟨pre, v, hP, hpre, rfl, hK⟩ := ZbH h
  unfold Zy5 at hP
  split at hP
  · obtain ⟨hb, hP⟩ := ZaP hP
    simp only [Bool.and_eq_true] at hb
    obtain ⟨h0, h1⟩ := hb
    obtain rfl := Nat.eq_of_beq_eq_true h0
    obtain rfl := Nat.eq_of_beq_eq_true h1
    cases hP
    exact ⟨rfl, fun w0 fp ρi => ZGJ (PlanV.mk _ _ _ _ _ _ _ _ _ _ _ _ _ _ _ _) hK (ZFZ (PlanV.mk _ _ _ _ _ _ _ _ _ _ _ _ _ _ _ _) hpre)⟩
  · cases hP
end Go.Proofs.Ytinjdimejijabaa
