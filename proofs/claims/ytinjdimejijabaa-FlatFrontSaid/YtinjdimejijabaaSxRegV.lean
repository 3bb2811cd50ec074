/- Part of the proof: SxRegV. -/
import Derived.Test.YtinjdimejijabaaSxPlanP
import Derived.Test.YtinjdimejijabaaSxRegion
import Derived.KernelRfl
set_option linter.unusedVariables false
set_option linter.unusedSimpArgs false
set_option maxRecDepth 20000
namespace Go.Proofs.Ytinjdimejijabaa
open Go.Sx
def Zn2 : Zfm := fun args => match args with
  | [.agg [.one (.int .i64 p_0), .one (.int .i64 p_1), .one (.int .i64 p_2), .one (.int .i64 p_3), .one (.int .i64 p_4), .one (.int .i64 p_5), .one (.int .u64 p_6), .one (.int .i64 p_7), .one (.int .i64 p_8), .one (.int .i64 p_9), .one (.int .i64 p_10), .one (.int .i64 p_11), .one (.int .i64 p_12), .one (.int .i64 p_13), .ints .u8 p_14_n p_14, .ints .u8 p_15_n p_15]] => bif Nat.beq p_14_n 16 && Nat.beq p_15_n 16 then some (True, .bool (PlanV.right (PlanV.mk p_0 p_1 p_2 p_3 p_4 p_5 p_6 p_7 p_8 p_9 p_10 p_11 p_12 p_13 p_14 p_15))) else none
  | _ => none
def ZsO : PCon := ⟨85, Zn2⟩
def Zm2 : ACode := .reg (.op (some 1) (.box (.tm 0)) (.op (some 2) (.mov (.cn (.bool false))) .nil))
def ZjO : ACode := .reg (.op (some 3) (.loadA 46 (.tm 1)) (.op (some 4) (.call 56 [(.tm 3)]) (.op (some 5) (.bin .eql (.tm 4) (.cn (.int .i64 0))) (.op (some 2) (.mov (.tm 5)) .nil))))
def Zr2 : ACode := (.seq Zm2 (.seq ZjO .ret))
def Zhs : Res := .one (.tm 2)
theorem Zlp : ZbJ Try.prog 85 1 6 Zr2 Zhs = true := by kernel_rfl
def Zn6 : Za7 := Zfk [Zjx] []
theorem Zot : Zbb Try.prog Zn6 := Zch ⟨ZmN, trivial⟩ trivial
section
variable {w0 : World} {fp : Nat -> Nat -> Prop} {ρi : Rho} {Kf : SVal -> Heap -> Prop}
abbrev Ya0 (x0 : PlanV) : Env := [(2, some (.bool ((bif PlanV.right x0 then 0 else 4 : Int) == 0)))]
abbrev Ya1 : Env := [(1, some (.ptr ⟨0, 0, 0, 1⟩ 46))]
abbrev Ya2 (x0 : PlanV) : Heap := ⟨1, [(0, some ⟨true, (PlanV.cs x0), 0⟩)]⟩
theorem Zxp (p : PlanV) (Z : Env -> Heap -> Prop) (h : (True) /\ Z (Ya0 p) ⟨1, []⟩) : EvC Zn6 ZjO Ya1 (Ya2 p) [2] [] Z := EvC.of (by kernel_rfl) h
theorem ZuT (p : PlanV) : RetC Zhs (Ya0 p) ⟨1, []⟩ (.bool ((bif PlanV.right p then 0 else 4 : Int) == 0)) := RetC.of (fun Z => by kernel_rfl)
def Zpo (p : PlanV) : Prop := ((bif PlanV.right p then 0 else 4 : Int) == 0) = (PlanV.right p)
theorem Zy0 (p : PlanV) (hK : Kf (.bool (PlanV.right p)) ⟨0, []⟩) (h : Zpo p) : SemL Try.prog w0 fp ρi 0 6 [ZjO, .ret] Ya1 (Ya2 p) (fnK Zhs 0 Kf) :=
  Zas Zot (Zxp p _ ⟨True.intro, (Zbz (R := Zhs) (m := 0) (Kf := Kf) (fun _ _ h => h) (ZuT p) (Zbd rfl (by kernel_rfl) (cg1 (fun (z1 : Bool) => (.bool z1 : SVal)) h) hK))⟩)
abbrev Ya3 (x0 : PlanV) : Env := [(0, some (.agg (PlanV.cs x0)))]
theorem Zxo (p : PlanV) (Z : Env -> Heap -> Prop) (h : Z Ya1 (Ya2 p)) : EvC Zn6 Zm2 (Ya3 p) ⟨0, []⟩ [1] [0] Z := EvC.of (by kernel_rfl) h
def Zpn (p : PlanV) : Prop := Zpo p
theorem ZyZ (p : PlanV) (hK : Kf (.bool (PlanV.right p)) ⟨0, []⟩) (h : Zpn p) : SemL Try.prog w0 fp ρi 0 6 [Zm2, (.seq ZjO .ret)] (Ya3 p) ⟨0, []⟩ (fnK Zhs 0 Kf) :=
  Zas Zot (Zxo p _ (Zau (Zy0 p hK h)))
def Zjl (p : PlanV) : Prop := Zpn p
theorem ZtV (p : PlanV) (hK : Kf (.bool (PlanV.right p)) ⟨0, []⟩) (h : Zjl p) : SemL Try.prog w0 fp ρi 0 6 [Zr2] (Ya3 p) ⟨0, []⟩ (fnK Zhs 0 Kf) :=
  (Zau (ZyZ p hK h))
end
theorem ZsS (p : PlanV) (hpre : True) : Zjl p := by
  unfold Zjl Zpn Zpo
  cases PlanV.right p <;> rfl
theorem Zua : Sound Try.prog 85 (ZeB Zn2) := by
  refine ZbP Zlp ?_
  intro args H K h
  obtain ⟨pre, v, hP, hpre, rfl, hK⟩ := ZbW h
  unfold Zn2 at hP
  split at hP
  · obtain ⟨hb, hP⟩ := ZaT hP
    simp only [Bool.and_eq_true] at hb
    obtain ⟨h0, h1⟩ := hb
    obtain rfl := Nat.eq_of_beq_eq_true h0
    obtain rfl := Nat.eq_of_beq_eq_true h1
    cases hP
    exact ⟨rfl, fun w0 fp ρi => ZtV (PlanV.mk _ _ _ _ _ _ _ _ _ _ _ _ _ _ _ _) hK (ZsS (PlanV.mk _ _ _ _ _ _ _ _ _ _ _ _ _ _ _ _) hpre)⟩
  · cases hP
def Zsr : Zfm := fun args => match args with
  | [.agg [.one (.int .i64 p_0), .one (.int .i64 p_1), .one (.int .i64 p_2), .one (.int .i64 p_3), .one (.int .i64 p_4), .one (.int .i64 p_5), .one (.int .u64 p_6), .one (.int .i64 p_7), .one (.int .i64 p_8), .one (.int .i64 p_9), .one (.int .i64 p_10), .one (.int .i64 p_11), .one (.int .i64 p_12), .one (.int .i64 p_13), .ints .u8 p_14_n p_14, .ints .u8 p_15_n p_15]] => bif Nat.beq p_14_n 16 && Nat.beq p_15_n 16 then some (True, .int .i64 (PlanV.tags (PlanV.mk p_0 p_1 p_2 p_3 p_4 p_5 p_6 p_7 p_8 p_9 p_10 p_11 p_12 p_13 p_14 p_15))) else none
  | _ => none
def Zwz : PCon := ⟨86, Zsr⟩
def Zm1 : ACode := .reg (.op (some 1) (.box (.tm 0)) (.op (some 2) (.mov (.cn (.int .i64 0))) .nil))
def ZjN : ACode := .reg (.op (some 3) (.loadA 46 (.tm 1)) (.op (some 4) (.call 57 [(.tm 3)]) (.op (some 5) (.bin .mul (.tm 4) (.cn (.int .i64 32))) (.op (some 2) (.mov (.tm 5)) .nil))))
def ZtH : ACode := (.seq Zm1 (.seq ZjN .ret))
def Zjh : Res := .one (.tm 2)
theorem ZnU : ZbJ Try.prog 86 1 6 ZtH Zjh = true := by kernel_rfl
def Zst : Za7 := Zfk [Ztw] []
theorem ZrM : Zbb Try.prog Zst := Zch ⟨Zxk, trivial⟩ trivial
section
variable {w0 : World} {fp : Nat -> Nat -> Prop} {ρi : Rho} {Kf : SVal -> Heap -> Prop}
abbrev Ya4 (x0 : PlanV) : Env := [(2, some (.int .i64 (IntKind.i64.wrap ((PlanV.all x0) * 32))))]
theorem Zxn (p : PlanV) (Z : Env -> Heap -> Prop) (h : (True) /\ Z (Ya4 p) ⟨1, []⟩) : EvC Zst ZjN Ya1 (Ya2 p) [2] [] Z := EvC.of (by kernel_rfl) h
theorem ZuS (p : PlanV) : RetC Zjh (Ya4 p) ⟨1, []⟩ (.int .i64 (IntKind.i64.wrap ((PlanV.all p) * 32))) := RetC.of (fun Z => by kernel_rfl)
def Zpm (p : PlanV) : Prop := (IntKind.i64.wrap ((PlanV.all p) * 32)) = (PlanV.tags p)
theorem ZyY (p : PlanV) (hK : Kf (.int .i64 (PlanV.tags p)) ⟨0, []⟩) (h : Zpm p) : SemL Try.prog w0 fp ρi 0 6 [ZjN, .ret] Ya1 (Ya2 p) (fnK Zjh 0 Kf) :=
  Zas ZrM (Zxn p _ ⟨True.intro, (Zbz (R := Zjh) (m := 0) (Kf := Kf) (fun _ _ h => h) (ZuS p) (Zbd rfl (by kernel_rfl) (cg1 (fun (z1 : Int) => (.int .i64 z1 : SVal)) h) hK))⟩)
theorem Zxm (p : PlanV) (Z : Env -> Heap -> Prop) (h : Z Ya1 (Ya2 p)) : EvC Zst Zm1 (Ya3 p) ⟨0, []⟩ [1] [0] Z := EvC.of (by kernel_rfl) h
def Zpl (p : PlanV) : Prop := Zpm p
theorem ZyX (p : PlanV) (hK : Kf (.int .i64 (PlanV.tags p)) ⟨0, []⟩) (h : Zpl p) : SemL Try.prog w0 fp ρi 0 6 [Zm1, (.seq ZjN .ret)] (Ya3 p) ⟨0, []⟩ (fnK Zjh 0 Kf) :=
  Zas ZrM (Zxm p _ (Zau (ZyY p hK h)))
def ZmM (p : PlanV) : Prop := Zpl p
theorem Zxb (p : PlanV) (hK : Kf (.int .i64 (PlanV.tags p)) ⟨0, []⟩) (h : ZmM p) : SemL Try.prog w0 fp ρi 0 6 [ZtH] (Ya3 p) ⟨0, []⟩ (fnK Zjh 0 Kf) :=
  (Zau (ZyX p hK h))
end
theorem ZwD (p : PlanV) (hpre : True) : ZmM p := by
  unfold ZmM Zpl Zpm
  have := p.all_le
  unfold PlanV.tags
  rw [ZlC]; omega
theorem Zxi : Sound Try.prog 86 (ZeB Zsr) := by
  refine ZbP ZnU ?_
  intro args H K h
  obtain ⟨pre, v, hP, hpre, rfl, hK⟩ := ZbW h
  unfold Zsr at hP
  split at hP
  · obtain ⟨hb, hP⟩ := ZaT hP
    simp only [Bool.and_eq_true] at hb
    obtain ⟨h0, h1⟩ := hb
    obtain rfl := Nat.eq_of_beq_eq_true h0
    obtain rfl := Nat.eq_of_beq_eq_true h1
    cases hP
    exact ⟨rfl, fun w0 fp ρi => Zxb (PlanV.mk _ _ _ _ _ _ _ _ _ _ _ _ _ _ _ _) hK (ZwD (PlanV.mk _ _ _ _ _ _ _ _ _ _ _ _ _ _ _ _) hpre)⟩
  · cases hP
end Go.Proofs.Ytinjdimejijabaa
