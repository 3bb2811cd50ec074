/- Part of the proof: SxFlatS. -/
import Derived.Test.YtinjdimejijabaaSxFlatY
import Derived.Test.YtinjdimejijabaaSxFitQ
import Derived.KernelRfl
set_option linter.unusedVariables false
set_option linter.unusedSimpArgs false
set_option maxRecDepth 20000
namespace Go.Proofs.Ytinjdimejijabaa
open Go.Sx
def ZoO : ZeX := fun args => match args with
  | [] => some (True, .bool true)
  | _ => none
def Zxa : PCon := ⟨24, ZoO⟩
def Zsr : ACode := .reg (.op (some 0) (.mov (.cn (.bool false))) .nil)
def Zou : ACode := .reg (.op (some 4) (.build [.i 0, .i 0, .i 0, .i 0, .i 0, .i 0, .one (.int .u64 0), .i 0, .i 0, .i 0, .i 0, .i 0, .i 0, .i 0, .ints .u8 16 (List.replicate 16 0), .ints .u8 16 (List.replicate 16 0)] []) (.op (some 5) (.call 25 [(.tm 4)]) (.op (some 6) (.build [.i 0, .i 0, .i 0, .one (.int .u64 0), .one (.int .u64 0)] [(0, 1, (.cn (.int .i64 2))), (2, 1, (.cn (.int .i64 1))), (3, 1, (.cn (.int .u64 5)))]) (.op (some 7) (.build [.i 0, .i 0, .i 0, .i 0, .one (.int .u64 0), .one (.int .u64 0), .i 0, .i 0, .one (.bool false), .one (.int .u64 0)] [(1, 5, (.tm 6)), (8, 1, (.cn (.bool true))), (7, 1, (.cn (.int .i64 1)))]) (.op (some 8) (.build [.i 0, .i 0, .i 0, .one (.int .u64 0), .one (.int .u64 0)] [(0, 1, (.cn (.int .i64 1))), (2, 1, (.cn (.int .i64 1)))]) (.op (some 9) (.build [.i 0, .i 0, .i 0, .i 0, .one (.int .u64 0), .one (.int .u64 0), .i 0, .i 0, .one (.bool false), .one (.int .u64 0)] [(1, 5, (.tm 8)), (8, 1, (.cn (.bool true))), (7, 1, (.cn (.int .i64 2))), (9, 1, (.cn (.int .u64 4)))]) (.op (some 10) (.bsliceR Zaa 2 [(.tm 7), (.tm 9)]) (.op (some 11) (.call 28 [(.tm 5), (.tm 10)]) (.op (some 3) (.mov (.tm 11)) (.op (some 12) (.extract (.tm 3) 0) (.op (some 13) (.extract (.tm 3) 1) (.op (some 1) (.mov (.tm 12)) (.op (some 2) (.mov (.tm 13)) .nil)))))))))))))
def Zlv : ACode := .reg (.op (some 14) (.mov (.tm 1)) (.op (some 15) (.bin .eql (.tm 14) (.cn (.int .i64 1))) (.op (some 16) (.mov (.tm 15)) (.grpJ 16 true (.op (some 17) (.mov (.tm 2)) (.op (some 18) (.bin .eql (.tm 17) (.cn (.int .i64 20))) .nil)) 19 (.tm 18) (.cn (.bool false)) (.op (some 0) (.mov (.tm 19)) .nil)))))
def Zuj : ACode := (.seq Zsr (.seq Zou (.seq Zlv .ret)))
def ZgF : Res := .one (.tm 0)
theorem ZoB : ZbE Try.prog 24 0 20 Zuj ZgF = true := by kernel_rfl
def Zkx : Zbe := ZdX [ZNS] [ZpT]
theorem Zk3 : Zbg Try.prog Zkx := ZbH ⟨ZOP, trivial⟩ ⟨ZwW, trivial⟩
section
variable {w0 : World} {fp : Nat -> Nat -> Prop} {ρi : Rho} {Kf : SVal -> Heap -> Prop}
theorem ZKi (v1 v2 : Int) (Z : Env -> Heap -> Prop) (h : ∃ qq : Bool, ((v1 == 1) = true -> (ZaL ⟨1, []⟩ ⟨1, []⟩ []) /\ (v2 == 20) = qq) /\ ((v1 == 1) = false -> false = qq) /\ Z [(0, some (.bool qq))] ⟨1, []⟩) : EvC Zkx Zlv [(1, some (.int .i64 v1)), (2, some (.int .i64 v2))] ⟨1, []⟩ [0] [] Z := EvC.of (by kernel_rfl) h
theorem ZEn (v1 v2 : Int) : RetC ZgF [(0, some (.bool ((v1 == 1) && (v2 == 20))))] ⟨1, []⟩ (.bool ((v1 == 1) && (v2 == 20))) := RetC.of (fun Z => by kernel_rfl)
def ZwP (v1 v2 : Int) : Prop := ((v1 == 1) && (v2 == 20)) = true
theorem ZNQ (hK : Kf (.bool true) ⟨0, []⟩) (v1 v2 : Int) (h : ZwP v1 v2) : SemL Try.prog w0 fp ρi 0 20 [Zlv, .ret] [(1, some (.int .i64 v1)), (2, some (.int .i64 v2))] ⟨1, []⟩ (fnK ZgF 0 Kf) :=
  Zae Zk3 (ZKi v1 v2 _ ⟨((v1 == 1) && (v2 == 20)), fun hc_qq => ⟨(ZaZ _), (qa1 hc_qq)⟩, fun hc_qq => qa2 hc_qq, (Za7 (R := ZgF) (m := 0) (Kf := Kf) (fun _ _ h => h) (ZEn v1 v2) (Za6 rfl (by kernel_rfl) (cg1 (fun (z1 : Bool) => (.bool z1 : SVal)) h) hK))⟩)
theorem ZKh (Z : Env -> Heap -> Prop) (h : ((PlanV.Wf (PlanV.mk 0 0 0 0 0 0 0 0 0 0 0 0 0 0 (List.replicate 16 0) (List.replicate 16 0)))) /\ (((2 : Nat) <= 2)) /\ (((2 : Nat) = 2) /\ (Zej (List.take 2 [((0, 2, 0, 1, 5, 0, 0, 1, true, 0) : Tup Zaa), ((0, 1, 0, 1, 0, 0, 0, 2, true, 4) : Tup Zaa)]) /\ List.length (List.take 2 [((0, 2, 0, 1, 5, 0, 0, 1, true, 0) : Tup Zaa), ((0, 1, 0, 1, 0, 0, 0, 2, true, 4) : Tup Zaa)]) = 2 /\ 2 <= 2 /\ 2 <= 1000)) /\ Z [(1, some (.int .i64 (PlanV.chkN (PlanV.fit (PlanV.mk 0 0 0 0 0 0 0 0 0 0 0 0 0 0 (List.replicate 16 0) (List.replicate 16 0))) (List.take 2 [((0, 2, 0, 1, 5, 0, 0, 1, true, 0) : Tup Zaa), ((0, 1, 0, 1, 0, 0, 0, 2, true, 4) : Tup Zaa)])))), (2, some (.int .i64 (PlanV.chkE (PlanV.fit (PlanV.mk 0 0 0 0 0 0 0 0 0 0 0 0 0 0 (List.replicate 16 0) (List.replicate 16 0))) (List.take 2 [((0, 2, 0, 1, 5, 0, 0, 1, true, 0) : Tup Zaa), ((0, 1, 0, 1, 0, 0, 0, 2, true, 4) : Tup Zaa)]))))] ⟨1, []⟩) : EvC Zkx Zou [] ⟨0, []⟩ [1, 2] [] Z := EvC.of (by kernel_rfl) h
def Zpc : Prop := ((PlanV.Wf (PlanV.mk 0 0 0 0 0 0 0 0 0 0 0 0 0 0 (List.replicate 16 0) (List.replicate 16 0)))) /\ (((Zej (List.take 2 [((0, 2, 0, 1, 5, 0, 0, 1, true, 0) : Tup Zaa), ((0, 1, 0, 1, 0, 0, 0, 2, true, 4) : Tup Zaa)]) /\ List.length (List.take 2 [((0, 2, 0, 1, 5, 0, 0, 1, true, 0) : Tup Zaa), ((0, 1, 0, 1, 0, 0, 0, 2, true, 4) : Tup Zaa)]) = 2 /\ 2 <= 2 /\ 2 <= 1000)) /\ (∀ v1 : Int, v1 = (PlanV.chkN (PlanV.fit (PlanV.mk 0 0 0 0 0 0 0 0 0 0 0 0 0 0 (List.replicate 16 0) (List.replicate 16 0))) (List.take 2 [((0, 2, 0, 1, 5, 0, 0, 1, true, 0) : Tup Zaa), ((0, 1, 0, 1, 0, 0, 0, 2, true, 4) : Tup Zaa)])) -> ∀ v2 : Int, v2 = (PlanV.chkE (PlanV.fit (PlanV.mk 0 0 0 0 0 0 0 0 0 0 0 0 0 0 (List.replicate 16 0) (List.replicate 16 0))) (List.take 2 [((0, 2, 0, 1, 5, 0, 0, 1, true, 0) : Tup Zaa), ((0, 1, 0, 1, 0, 0, 0, 2, true, 4) : Tup Zaa)])) -> ZwP v1 v2))
theorem ZNP (hK : Kf (.bool true) ⟨0, []⟩) (h : Zpc) : SemL Try.prog w0 fp ρi 0 20 [Zou, (.seq Zlv .ret)] [] ⟨0, []⟩ (fnK ZgF 0 Kf) :=
  Zae Zk3 (ZKh _ ⟨h.1, ⟨(Nat.le_refl _), ⟨⟨rfl, h.2.1⟩, (Zag (ZNQ hK (PlanV.chkN (PlanV.fit (PlanV.mk 0 0 0 0 0 0 0 0 0 0 0 0 0 0 (List.replicate 16 0) (List.replicate 16 0))) (List.take 2 [((0, 2, 0, 1, 5, 0, 0, 1, true, 0) : Tup Zaa), ((0, 1, 0, 1, 0, 0, 0, 2, true, 4) : Tup Zaa)])) (PlanV.chkE (PlanV.fit (PlanV.mk 0 0 0 0 0 0 0 0 0 0 0 0 0 0 (List.replicate 16 0) (List.replicate 16 0))) (List.take 2 [((0, 2, 0, 1, 5, 0, 0, 1, true, 0) : Tup Zaa), ((0, 1, 0, 1, 0, 0, 0, 2, true, 4) : Tup Zaa)])) ((h.2.2 (PlanV.chkN (PlanV.fit (PlanV.mk 0 0 0 0 0 0 0 0 0 0 0 0 0 0 (List.replicate 16 0) (List.replicate 16 0))) (List.take 2 [((0, 2, 0, 1, 5, 0, 0, 1, true, 0) : Tup Zaa), ((0, 1, 0, 1, 0, 0, 0, 2, true, 4) : Tup Zaa)])) rfl) (PlanV.chkE (PlanV.fit (PlanV.mk 0 0 0 0 0 0 0 0 0 0 0 0 0 0 (List.replicate 16 0) (List.replicate 16 0))) (List.take 2 [((0, 2, 0, 1, 5, 0, 0, 1, true, 0) : Tup Zaa), ((0, 1, 0, 1, 0, 0, 0, 2, true, 4) : Tup Zaa)])) rfl)))⟩⟩⟩)
theorem ZKg (Z : Env -> Heap -> Prop) (h : Z [] ⟨0, []⟩) : EvC Zkx Zsr [] ⟨0, []⟩ [] [] Z := EvC.of (by kernel_rfl) h
theorem ZNO (hK : Kf (.bool true) ⟨0, []⟩) (h : Zpc) : SemL Try.prog w0 fp ρi 0 20 [Zsr, (.seq Zou (.seq Zlv .ret))] [] ⟨0, []⟩ (fnK ZgF 0 Kf) :=
  Zae Zk3 (ZKg _ (Zag (ZNP hK h)))
theorem Zy4 (hK : Kf (.bool true) ⟨0, []⟩) (h : Zpc) : SemL Try.prog w0 fp ρi 0 20 [Zuj] [] ⟨0, []⟩ (fnK ZgF 0 Kf) :=
  (Zag (ZNO hK h))
end
theorem Zxf (hpre : True) : Zpc := by
  unfold Zpc ZwP
  refine ⟨?_, ⟨?_, rfl, by omega, by omega⟩, ?_⟩
  · unfold PlanV.Wf I64; decide +kernel
  · intro x hx
    have hx : x = (0, 2, 0, 1, 5, 0, 0, 1, true, 0) ∨ x = (0, 1, 0, 1, 0, 0, 0, 2, true, 4) := by simpa using hx
    rcases hx with rfl | rfl <;> (unfold ZyS Zci ZuN Zhy Zu4 OpV.Wf I64; simp)
  · rintro v1 rfl v2 rfl
    decide +kernel
theorem Zzc : Sound Try.prog 24 (ZeA ZoO) := by
  refine Zbq ZoB ?_
  intro args H K h
  obtain ⟨pre, v, hP, hpre, rfl, hK⟩ := ZbM h
  unfold ZoO at hP
  split at hP
  · cases hP
    exact ⟨rfl, fun w0 fp ρi => Zy4 hK (Zxf hpre)⟩
  · cases hP
end Go.Proofs.Ytinjdimejijabaa
