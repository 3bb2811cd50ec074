/- Part of the proof: SxFlatS. -/
import Derived.Test.YtinjdimejijabaaSxFlatY
import Derived.Test.YtinjdimejijabaaSxFitQ
import Derived.KernelRfl
set_option linter.unusedVariables false
set_option linter.unusedSimpArgs false
set_option maxRecDepth 20000
namespace Go.Proofs.Ytinjdimejijabaa
open Go.Sx
def ZkO : Zfm := fun args => match args with
  | [] => some (True, .bool true)
  | _ => none
def Zru : PCon := ⟨24, ZkO⟩
def ZnQ : ACode := .reg (.op (some 0) (.mov (.cn (.bool false))) .nil)
def Zky : ACode := .reg (.op (some 4) (.build [.one (.int .i64 0), .one (.int .i64 0), .one (.int .i64 0), .one (.int .i64 0), .one (.int .i64 0), .one (.int .i64 0), .one (.int .u64 0), .one (.int .i64 0), .one (.int .i64 0), .one (.int .i64 0), .one (.int .i64 0), .one (.int .i64 0), .one (.int .i64 0), .one (.int .i64 0), .ints .u8 16 (List.replicate 16 0), .ints .u8 16 (List.replicate 16 0)] []) (.op (some 5) (.call 25 [(.tm 4)]) (.op (some 6) (.build [.one (.int .i64 0), .one (.int .i64 0), .one (.int .i64 0), .one (.int .u64 0), .one (.int .u64 0)] [(0, 1, (.cn (.int .i64 2))), (2, 1, (.cn (.int .i64 1))), (3, 1, (.cn (.int .u64 5)))]) (.op (some 7) (.build [.one (.int .i64 0), .one (.int .i64 0), .one (.int .i64 0), .one (.int .i64 0), .one (.int .u64 0), .one (.int .u64 0), .one (.int .i64 0), .one (.int .i64 0), .one (.bool false), .one (.int .u64 0)] [(1, 5, (.tm 6)), (8, 1, (.cn (.bool true))), (7, 1, (.cn (.int .i64 1)))]) (.op (some 8) (.build [.one (.int .i64 0), .one (.int .i64 0), .one (.int .i64 0), .one (.int .u64 0), .one (.int .u64 0)] [(0, 1, (.cn (.int .i64 1))), (2, 1, (.cn (.int .i64 1)))]) (.op (some 9) (.build [.one (.int .i64 0), .one (.int .i64 0), .one (.int .i64 0), .one (.int .i64 0), .one (.int .u64 0), .one (.int .u64 0), .one (.int .i64 0), .one (.int .i64 0), .one (.bool false), .one (.int .u64 0)] [(1, 5, (.tm 8)), (8, 1, (.cn (.bool true))), (7, 1, (.cn (.int .i64 2))), (9, 1, (.cn (.int .u64 4)))]) (.op (some 10) (.bsliceR Zaa 2 [(.tm 7), (.tm 9)]) (.op (some 11) (.call 28 [(.tm 5), (.tm 10)]) (.op (some 3) (.mov (.tm 11)) (.op (some 12) (.extract (.tm 3) 0) (.op (some 13) (.extract (.tm 3) 1) (.op (some 1) (.mov (.tm 12)) (.op (some 2) (.mov (.tm 13)) .nil)))))))))))))
def ZiH : ACode := .reg (.op (some 14) (.mov (.tm 1)) (.op (some 15) (.bin .eql (.tm 14) (.cn (.int .i64 1))) (.op (some 16) (.mov (.tm 15)) (.grpJ 16 true (.op (some 17) (.mov (.tm 2)) (.op (some 18) (.bin .eql (.tm 17) (.cn (.int .i64 20))) .nil)) 19 (.tm 18) (.cn (.bool false)) (.op (some 0) (.mov (.tm 19)) .nil)))))
def ZoI : ACode := (.seq ZnQ (.seq Zky (.seq ZiH .ret)))
def Zfh : Res := .one (.tm 0)
theorem ZkB : ZbJ Try.prog 24 0 20 ZoI Zfh = true := by kernel_rfl
def Zh1 : Za7 := Zfk [Ztv] [Zlq]
theorem Zik : Zbb Try.prog Zh1 := Zch ⟨Zxj, trivial⟩ ⟨Zrj, trivial⟩
section
variable {w0 : World} {fp : Nat -> Nat -> Prop} {ρi : Rho} {Kf : SVal -> Heap -> Prop}
theorem ZyR (v1 v2 : Int) (Z : Env -> Heap -> Prop) (h : ∃ qq : Bool, ((v1 == 1) = true -> (ZaN ⟨1, []⟩ ⟨1, []⟩ []) /\ (v2 == 20) = qq) /\ ((v1 == 1) = false -> false = qq) /\ Z [(0, some (.bool qq))] ⟨1, []⟩) : EvC Zh1 ZiH [(1, some (.int .i64 v1)), (2, some (.int .i64 v2))] ⟨1, []⟩ [0] [] Z := EvC.of (by kernel_rfl) h
theorem Zvq (v1 v2 : Int) : RetC Zfh [(0, some (.bool ((v1 == 1) && (v2 == 20))))] ⟨1, []⟩ (.bool ((v1 == 1) && (v2 == 20))) := RetC.of (fun Z => by kernel_rfl)
def Zrb (v1 v2 : Int) : Prop := ((v1 == 1) && (v2 == 20)) = true
theorem ZAO (hK : Kf (.bool true) ⟨0, []⟩) (v1 v2 : Int) (h : Zrb v1 v2) : SemL Try.prog w0 fp ρi 0 20 [ZiH, .ret] [(1, some (.int .i64 v1)), (2, some (.int .i64 v2))] ⟨1, []⟩ (fnK Zfh 0 Kf) :=
  Zas Zik (ZyR v1 v2 _ ⟨((v1 == 1) && (v2 == 20)), fun hc_qq => ⟨(Za3 _), (qa1 hc_qq)⟩, fun hc_qq => qa2 hc_qq, (Zbz (R := Zfh) (m := 0) (Kf := Kf) (fun _ _ h => h) (Zvq v1 v2) (Zbd rfl (by kernel_rfl) (cg1 (fun (z1 : Bool) => (.bool z1 : SVal)) h) hK))⟩)
theorem ZyQ (Z : Env -> Heap -> Prop) (h : ((PlanV.Wf (PlanV.mk 0 0 0 0 0 0 0 0 0 0 0 0 0 0 (List.replicate 16 0) (List.replicate 16 0)))) /\ (((2 : Nat) <= 2)) /\ (((2 : Nat) = 2) /\ (Zgg (List.take 2 [((0, 2, 0, 1, 5, 0, 0, 1, true, 0) : Tup Zaa), ((0, 1, 0, 1, 0, 0, 0, 2, true, 4) : Tup Zaa)]) /\ List.length (List.take 2 [((0, 2, 0, 1, 5, 0, 0, 1, true, 0) : Tup Zaa), ((0, 1, 0, 1, 0, 0, 0, 2, true, 4) : Tup Zaa)]) = 2 /\ 2 <= 2 /\ 2 <= 1000)) /\ Z [(1, some (.int .i64 (PlanV.chkN (PlanV.fit (PlanV.mk 0 0 0 0 0 0 0 0 0 0 0 0 0 0 (List.replicate 16 0) (List.replicate 16 0))) (List.take 2 [((0, 2, 0, 1, 5, 0, 0, 1, true, 0) : Tup Zaa), ((0, 1, 0, 1, 0, 0, 0, 2, true, 4) : Tup Zaa)])))), (2, some (.int .i64 (PlanV.chkE (PlanV.fit (PlanV.mk 0 0 0 0 0 0 0 0 0 0 0 0 0 0 (List.replicate 16 0) (List.replicate 16 0))) (List.take 2 [((0, 2, 0, 1, 5, 0, 0, 1, true, 0) : Tup Zaa), ((0, 1, 0, 1, 0, 0, 0, 2, true, 4) : Tup Zaa)]))))] ⟨1, []⟩) : EvC Zh1 Zky [] ⟨0, []⟩ [1, 2] [] Z := EvC.of (by kernel_rfl) h
def Zra : Prop := ((PlanV.Wf (PlanV.mk 0 0 0 0 0 0 0 0 0 0 0 0 0 0 (List.replicate 16 0) (List.replicate 16 0)))) /\ (((Zgg (List.take 2 [((0, 2, 0, 1, 5, 0, 0, 1, true, 0) : Tup Zaa), ((0, 1, 0, 1, 0, 0, 0, 2, true, 4) : Tup Zaa)]) /\ List.length (List.take 2 [((0, 2, 0, 1, 5, 0, 0, 1, true, 0) : Tup Zaa), ((0, 1, 0, 1, 0, 0, 0, 2, true, 4) : Tup Zaa)]) = 2 /\ 2 <= 2 /\ 2 <= 1000)) /\ (∀ v1 : Int, v1 = (PlanV.chkN (PlanV.fit (PlanV.mk 0 0 0 0 0 0 0 0 0 0 0 0 0 0 (List.replicate 16 0) (List.replicate 16 0))) (List.take 2 [((0, 2, 0, 1, 5, 0, 0, 1, true, 0) : Tup Zaa), ((0, 1, 0, 1, 0, 0, 0, 2, true, 4) : Tup Zaa)])) -> ∀ v2 : Int, v2 = (PlanV.chkE (PlanV.fit (PlanV.mk 0 0 0 0 0 0 0 0 0 0 0 0 0 0 (List.replicate 16 0) (List.replicate 16 0))) (List.take 2 [((0, 2, 0, 1, 5, 0, 0, 1, true, 0) : Tup Zaa), ((0, 1, 0, 1, 0, 0, 0, 2, true, 4) : Tup Zaa)])) -> Zrb v1 v2))
theorem ZAN (hK : Kf (.bool true) ⟨0, []⟩) (h : Zra) : SemL Try.prog w0 fp ρi 0 20 [Zky, (.seq ZiH .ret)] [] ⟨0, []⟩ (fnK Zfh 0 Kf) :=
  Zas Zik (ZyQ _ ⟨h.1, ⟨(Nat.le_refl _), ⟨⟨rfl, h.2.1⟩, (Zau (ZAO hK (PlanV.chkN (PlanV.fit (PlanV.mk 0 0 0 0 0 0 0 0 0 0 0 0 0 0 (List.replicate 16 0) (List.replicate 16 0))) (List.take 2 [((0, 2, 0, 1, 5, 0, 0, 1, true, 0) : Tup Zaa), ((0, 1, 0, 1, 0, 0, 0, 2, true, 4) : Tup Zaa)])) (PlanV.chkE (PlanV.fit (PlanV.mk 0 0 0 0 0 0 0 0 0 0 0 0 0 0 (List.replicate 16 0) (List.replicate 16 0))) (List.take 2 [((0, 2, 0, 1, 5, 0, 0, 1, true, 0) : Tup Zaa), ((0, 1, 0, 1, 0, 0, 0, 2, true, 4) : Tup Zaa)])) ((h.2.2 (PlanV.chkN (PlanV.fit (PlanV.mk 0 0 0 0 0 0 0 0 0 0 0 0 0 0 (List.replicate 16 0) (List.replicate 16 0))) (List.take 2 [((0, 2, 0, 1, 5, 0, 0, 1, true, 0) : Tup Zaa), ((0, 1, 0, 1, 0, 0, 0, 2, true, 4) : Tup Zaa)])) rfl) (PlanV.chkE (PlanV.fit (PlanV.mk 0 0 0 0 0 0 0 0 0 0 0 0 0 0 (List.replicate 16 0) (List.replicate 16 0))) (List.take 2 [((0, 2, 0, 1, 5, 0, 0, 1, true, 0) : Tup Zaa), ((0, 1, 0, 1, 0, 0, 0, 2, true, 4) : Tup Zaa)])) rfl)))⟩⟩⟩)
theorem ZyP (Z : Env -> Heap -> Prop) (h : Z [] ⟨0, []⟩) : EvC Zh1 ZnQ [] ⟨0, []⟩ [] [] Z := EvC.of (by kernel_rfl) h
def Zq9 : Prop := Zra
theorem ZAM (hK : Kf (.bool true) ⟨0, []⟩) (h : Zq9) : SemL Try.prog w0 fp ρi 0 20 [ZnQ, (.seq Zky (.seq ZiH .ret))] [] ⟨0, []⟩ (fnK Zfh 0 Kf) :=
  Zas Zik (ZyP _ (Zau (ZAN hK h)))
def Zh4 : Prop := Zq9
theorem ZsD (hK : Kf (.bool true) ⟨0, []⟩) (h : Zh4) : SemL Try.prog w0 fp ρi 0 20 [ZoI] [] ⟨0, []⟩ (fnK Zfh 0 Kf) :=
  (Zau (ZAM hK h))
end
theorem Zrz (hpre : True) : Zh4 := by
  unfold Zh4 Zq9 Zra Zrb
  refine ⟨?_, ⟨?_, rfl, by omega, by omega⟩, ?_⟩
  · unfold PlanV.Wf I64; decide +kernel
  · intro x hx
    have hx : x = (0, 2, 0, 1, 5, 0, 0, 1, true, 0) ∨ x = (0, 1, 0, 1, 0, 0, 0, 2, true, 4) := by simpa using hx
    rcases hx with rfl | rfl <;> (unfold Zn8 Zdw Zox Zhm ZrT OpV.Wf I64; simp)
  · rintro v1 rfl v2 rfl
    decide +kernel
theorem ZsI : Sound Try.prog 24 (ZeB ZkO) := by
  refine ZbP ZkB ?_
  intro args H K h
  obtain ⟨pre, v, hP, hpre, rfl, hK⟩ := ZbW h
  unfold ZkO at hP
  split at hP
  · cases hP
    exact ⟨rfl, fun w0 fp ρi => ZsD hK (Zrz hpre)⟩
  · cases hP
end Go.Proofs.Ytinjdimejijabaa
