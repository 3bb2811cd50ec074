/- Part of the proof: SxFlatS. -/
import Derived.Test.YtinjdimejijabaaSxFlatY
import Derived.Test.YtinjdimejijabaaSxFitQ
import Derived.KernelRfl
set_option linter.unusedVariables false
set_option linter.unusedSimpArgs false
set_option maxRecDepth 20000
namespace Go.Proofs.Ytinjdimejijabaa
open Go.Sx
def ZnV : Zez := fun args => match args with
  | [] => some (True, .bool true)
  | _ => none
def ZxG : PCon := ⟨24, ZnV⟩
def Zsa : ACode := .reg (.op (some 0) (.mov (.cn (.bool false))) .nil)
def ZnB : ACode := .reg (.op (some 4) (.build [.one (.int .i64 0), .one (.int .i64 0), .one (.int .i64 0), .one (.int .i64 0), .one (.int .i64 0), .one (.int .i64 0), .one (.int .u64 0), .one (.int .i64 0), .one (.int .i64 0), .one (.int .i64 0), .one (.int .i64 0), .one (.int .i64 0), .one (.int .i64 0), .one (.int .i64 0), .ints .u8 16 (List.replicate 16 0), .ints .u8 16 (List.replicate 16 0)] []) (.op (some 5) (.call 25 [(.tm 4)]) (.op (some 6) (.build [.one (.int .i64 0), .one (.int .i64 0), .one (.int .i64 0), .one (.int .u64 0), .one (.int .u64 0)] [(0, 1, (.cn (.int .i64 2))), (2, 1, (.cn (.int .i64 1))), (3, 1, (.cn (.int .u64 5)))]) (.op (some 7) (.build [.one (.int .i64 0), .one (.int .i64 0), .one (.int .i64 0), .one (.int .i64 0), .one (.int .u64 0), .one (.int .u64 0), .one (.int .i64 0), .one (.int .i64 0), .one (.bool false), .one (.int .u64 0)] [(1, 5, (.tm 6)), (8, 1, (.cn (.bool true))), (7, 1, (.cn (.int .i64 1)))]) (.op (some 8) (.build [.one (.int .i64 0), .one (.int .i64 0), .one (.int .i64 0), .one (.int .u64 0), .one (.int .u64 0)] [(0, 1, (.cn (.int .i64 1))), (2, 1, (.cn (.int .i64 1)))]) (.op (some 9) (.build [.one (.int .i64 0), .one (.int .i64 0), .one (.int .i64 0), .one (.int .i64 0), .one (.int .u64 0), .one (.int .u64 0), .one (.int .i64 0), .one (.int .i64 0), .one (.bool false), .one (.int .u64 0)] [(1, 5, (.tm 8)), (8, 1, (.cn (.bool true))), (7, 1, (.cn (.int .i64 2))), (9, 1, (.cn (.int .u64 4)))]) (.op (some 10) (.bsliceR Zaf 2 [(.tm 7), (.tm 9)]) (.op (some 11) (.call 28 [(.tm 5), (.tm 10)]) (.op (some 3) (.mov (.tm 11)) (.op (some 12) (.extract (.tm 3) 0) (.op (some 13) (.extract (.tm 3) 1) (.op (some 1) (.mov (.tm 12)) (.op (some 2) (.mov (.tm 13)) .nil)))))))))))))
def Zkz : ACode := .reg (.op (some 14) (.mov (.tm 1)) (.op (some 15) (.bin .eql (.tm 14) (.cn (.int .i64 1))) (.op (some 16) (.mov (.tm 15)) (.grpJ 16 true (.op (some 17) (.mov (.tm 2)) (.op (some 18) (.bin .eql (.tm 17) (.cn (.int .i64 20))) .nil)) 19 (.tm 18) (.cn (.bool false)) (.op (some 0) (.mov (.tm 19)) .nil)))))
def Ztu : ACode := (.seq Zsa (.seq ZnB (.seq Zkz .ret)))
def Zgf : Res := .one (.tm 0)
theorem ZnI : ZbD Try.prog 24 0 20 Ztu Zgf = true := by kernel_rfl
def ZjI : Za8 := ZdW [ZMv] [ZyL]
theorem Zj4 : Za9 Try.prog ZjI := ZbI ⟨ZNv, trivial⟩ ⟨ZCf, trivial⟩
section
variable {w0 : World} {fp : Nat -> Nat -> Prop} {ρi : Rho} {Kf : SVal -> Heap -> Prop}
theorem ZJj (v1 v2 : Int) (Z : Env -> Heap -> Prop) (h : ∃ qq : Bool, ((v1 == 1) = true -> (ZaK ⟨1, []⟩ ⟨1, []⟩ []) /\ (v2 == 20) = qq) /\ ((v1 == 1) = false -> false = qq) /\ Z [(0, some (.bool qq))] ⟨1, []⟩) : EvC ZjI Zkz [(1, some (.int .i64 v1)), (2, some (.int .i64 v2))] ⟨1, []⟩ [0] [] Z := EvC.of (by kernel_rfl) h
theorem ZEc (v1 v2 : Int) : RetC Zgf [(0, some (.bool ((v1 == 1) && (v2 == 20))))] ⟨1, []⟩ (.bool ((v1 == 1) && (v2 == 20))) := RetC.of (fun Z => by kernel_rfl)
def Zxj (v1 v2 : Int) : Prop := ((v1 == 1) && (v2 == 20)) = true
theorem ZMt (hK : Kf (.bool true) ⟨0, []⟩) (v1 v2 : Int) (h : Zxj v1 v2) : SemL Try.prog w0 fp ρi 0 20 [Zkz, .ret] [(1, some (.int .i64 v1)), (2, some (.int .i64 v2))] ⟨1, []⟩ (fnK Zgf 0 Kf) :=
  Zae Zj4 (ZJj v1 v2 _ ⟨((v1 == 1) && (v2 == 20)), fun hc_qq => ⟨(ZaT _), (qa1 hc_qq)⟩, fun hc_qq => qa2 hc_qq, (Zba (R := Zgf) (m := 0) (Kf := Kf) (fun _ _ h => h) (ZEc v1 v2) (Za3 rfl (by kernel_rfl) (cg1 (fun (z1 : Bool) => (.bool z1 : SVal)) h) hK))⟩)
theorem ZJi (Z : Env -> Heap -> Prop) (h : ((PlanV.Wf (PlanV.mk 0 0 0 0 0 0 0 0 0 0 0 0 0 0 (List.replicate 16 0) (List.replicate 16 0)))) /\ (((2 : Nat) <= 2)) /\ (((2 : Nat) = 2) /\ (ZtA (List.take 2 [((0, 2, 0, 1, 5, 0, 0, 1, true, 0) : Tup Zaf), ((0, 1, 0, 1, 0, 0, 0, 2, true, 4) : Tup Zaf)]) /\ List.length (List.take 2 [((0, 2, 0, 1, 5, 0, 0, 1, true, 0) : Tup Zaf), ((0, 1, 0, 1, 0, 0, 0, 2, true, 4) : Tup Zaf)]) = 2 /\ 2 <= 2 /\ 2 <= 1000)) /\ Z [(1, some (.int .i64 (PlanV.chkN (PlanV.fit (PlanV.mk 0 0 0 0 0 0 0 0 0 0 0 0 0 0 (List.replicate 16 0) (List.replicate 16 0))) (List.take 2 [((0, 2, 0, 1, 5, 0, 0, 1, true, 0) : Tup Zaf), ((0, 1, 0, 1, 0, 0, 0, 2, true, 4) : Tup Zaf)])))), (2, some (.int .i64 (PlanV.chkE (PlanV.fit (PlanV.mk 0 0 0 0 0 0 0 0 0 0 0 0 0 0 (List.replicate 16 0) (List.replicate 16 0))) (List.take 2 [((0, 2, 0, 1, 5, 0, 0, 1, true, 0) : Tup Zaf), ((0, 1, 0, 1, 0, 0, 0, 2, true, 4) : Tup Zaf)]))))] ⟨1, []⟩) : EvC ZjI ZnB [] ⟨0, []⟩ [1, 2] [] Z := EvC.of (by kernel_rfl) h
def Zxi : Prop := ((PlanV.Wf (PlanV.mk 0 0 0 0 0 0 0 0 0 0 0 0 0 0 (List.replicate 16 0) (List.replicate 16 0)))) /\ (((ZtA (List.take 2 [((0, 2, 0, 1, 5, 0, 0, 1, true, 0) : Tup Zaf), ((0, 1, 0, 1, 0, 0, 0, 2, true, 4) : Tup Zaf)]) /\ List.length (List.take 2 [((0, 2, 0, 1, 5, 0, 0, 1, true, 0) : Tup Zaf), ((0, 1, 0, 1, 0, 0, 0, 2, true, 4) : Tup Zaf)]) = 2 /\ 2 <= 2 /\ 2 <= 1000)) /\ (∀ v1 : Int, v1 = (PlanV.chkN (PlanV.fit (PlanV.mk 0 0 0 0 0 0 0 0 0 0 0 0 0 0 (List.replicate 16 0) (List.replicate 16 0))) (List.take 2 [((0, 2, 0, 1, 5, 0, 0, 1, true, 0) : Tup Zaf), ((0, 1, 0, 1, 0, 0, 0, 2, true, 4) : Tup Zaf)])) -> ∀ v2 : Int, v2 = (PlanV.chkE (PlanV.fit (PlanV.mk 0 0 0 0 0 0 0 0 0 0 0 0 0 0 (List.replicate 16 0) (List.replicate 16 0))) (List.take 2 [((0, 2, 0, 1, 5, 0, 0, 1, true, 0) : Tup Zaf), ((0, 1, 0, 1, 0, 0, 0, 2, true, 4) : Tup Zaf)])) -> Zxj v1 v2))
theorem ZMs (hK : Kf (.bool true) ⟨0, []⟩) (h : Zxi) : SemL Try.prog w0 fp ρi 0 20 [ZnB, (.seq Zkz .ret)] [] ⟨0, []⟩ (fnK Zgf 0 Kf) :=
  Zae Zj4 (ZJi _ ⟨h.1, ⟨(Nat.le_refl _), ⟨⟨rfl, h.2.1⟩, (Zag (ZMt hK (PlanV.chkN (PlanV.fit (PlanV.mk 0 0 0 0 0 0 0 0 0 0 0 0 0 0 (List.replicate 16 0) (List.replicate 16 0))) (List.take 2 [((0, 2, 0, 1, 5, 0, 0, 1, true, 0) : Tup Zaf), ((0, 1, 0, 1, 0, 0, 0, 2, true, 4) : Tup Zaf)])) (PlanV.chkE (PlanV.fit (PlanV.mk 0 0 0 0 0 0 0 0 0 0 0 0 0 0 (List.replicate 16 0) (List.replicate 16 0))) (List.take 2 [((0, 2, 0, 1, 5, 0, 0, 1, true, 0) : Tup Zaf), ((0, 1, 0, 1, 0, 0, 0, 2, true, 4) : Tup Zaf)])) ((h.2.2 (PlanV.chkN (PlanV.fit (PlanV.mk 0 0 0 0 0 0 0 0 0 0 0 0 0 0 (List.replicate 16 0) (List.replicate 16 0))) (List.take 2 [((0, 2, 0, 1, 5, 0, 0, 1, true, 0) : Tup Zaf), ((0, 1, 0, 1, 0, 0, 0, 2, true, 4) : Tup Zaf)])) rfl) (PlanV.chkE (PlanV.fit (PlanV.mk 0 0 0 0 0 0 0 0 0 0 0 0 0 0 (List.replicate 16 0) (List.replicate 16 0))) (List.take 2 [((0, 2, 0, 1, 5, 0, 0, 1, true, 0) : Tup Zaf), ((0, 1, 0, 1, 0, 0, 0, 2, true, 4) : Tup Zaf)])) rfl)))⟩⟩⟩)
theorem ZJh (Z : Env -> Heap -> Prop) (h : Z [] ⟨0, []⟩) : EvC ZjI Zsa [] ⟨0, []⟩ [] [] Z := EvC.of (by kernel_rfl) h
def Zxh : Prop := Zxi
theorem ZMr (hK : Kf (.bool true) ⟨0, []⟩) (h : Zxh) : SemL Try.prog w0 fp ρi 0 20 [Zsa, (.seq ZnB (.seq Zkz .ret))] [] ⟨0, []⟩ (fnK Zgf 0 Kf) :=
  Zae Zj4 (ZJh _ (Zag (ZMs hK h)))
def ZjM : Prop := Zxh
theorem Zzn (hK : Kf (.bool true) ⟨0, []⟩) (h : ZjM) : SemL Try.prog w0 fp ρi 0 20 [Ztu] [] ⟨0, []⟩ (fnK Zgf 0 Kf) :=
  (Zag (ZMr hK h))
end
theorem ZxL (hpre : True) : ZjM := by
  unfold ZjM Zxh Zxi Zxj
  refine ⟨?_, ⟨?_, rfl, by omega, by omega⟩, ?_⟩
  · unfold PlanV.Wf I64; decide +kernel
  · intro x hx
    have hx : x = (0, 2, 0, 1, 5, 0, 0, 1, true, 0) ∨ x = (0, 1, 0, 1, 0, 0, 0, 2, true, 4) := by simpa using hx
    rcases hx with rfl | rfl <;> (unfold Zzb Zhg Zzg Zmt ZBr OpV.Wf I64; simp)
  · rintro v1 rfl v2 rfl
    decide +kernel
theorem Zzt : Sound Try.prog 24 (Zed ZnV) := by
  refine Zbx ZnI ?_
  intro args H K h
  obtain ⟨pre, v, hP, hpre, rfl, hK⟩ := ZbH h
  unfold ZnV at hP
  split at hP
  · cases hP
    exact ⟨rfl, fun w0 fp ρi => Zzn hK (ZxL hpre)⟩
  · cases hP
end Go.Proofs.Ytinjdimejijabaa
