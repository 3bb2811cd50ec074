/- Walks, printed by vcg. -/
import Derived.Test.YtlmcdbgcbmjilaaSxFitQ
import Derived.Test.YtlmcdbgcbmjilaaSxRegW
import Derived.Test.YtlmcdbgcbmjilaaSxRegion2
import Derived.KernelRfl
set_option linter.unusedVariables false
set_option linter.unusedSimpArgs false
namespace Go.Proofs.Ytlmcdbgcbmjilaa
open Go.Sx
def PrSpeaks : PSpec := fun args => match args with
  | [] => some (True, .bool true)
  | _ => none
def pcrSpeaks : PCon := ⟨66, PrSpeaks⟩
def crSpeaks_n0 : ACode := .reg (.op (some 0) (.mov (.cn (.bool false))) .nil)
def crSpeaks_n1 : ACode := .reg (.op (some 6) (.build [.one (.int .i64 0), .one (.int .i64 0), .one (.int .i64 0), .one (.int .i64 0), .one (.int .i64 0), .one (.int .i64 0), .one (.int .u64 0), .one (.int .i64 0), .one (.int .i64 0), .one (.int .i64 0), .one (.int .i64 0), .one (.int .i64 0), .one (.int .i64 0), .one (.int .i64 0), .ints .u8 16 (List.replicate 16 0), .ints .u8 16 (List.replicate 16 0)] [(2, 1, (.cn (.int .i64 2))), (3, 1, (.cn (.int .i64 2))), (4, 1, (.cn (.int .i64 2)))]) (.op (some 7) (.call 65 [(.tm 6)]) (.op (some 1) (.alloc [.one (.int .i64 0), .one (.int .i64 0), .one (.int .i64 0), .one (.int .i64 0), .one (.int .i64 0), .one (.int .i64 0), .one (.int .u64 0), .one (.int .i64 0), .one (.int .i64 0), .one (.int .i64 0), .one (.int .i64 0), .one (.int .i64 0), .one (.int .i64 0), .one (.int .i64 0), .ints .u8 16 (List.replicate 16 0), .ints .u8 16 (List.replicate 16 0)]) (.op none (.storeA 46 (.tm 1) (.tm 7)) .nil))))
def crSpeaks_n2 : ACode := .reg (.op (some 9) (.loadA 46 (.tm 1)) (.op (some 10) (.build [.one (.int .i64 0), .one (.int .i64 0)] [(1, 1, (.cn (.int .i64 1)))]) (.op (some 11) (.call 67 [(.tm 9), (.tm 10)]) (.op (some 8) (.mov (.tm 11)) (.op (some 12) (.extract (.tm 8) 0) (.op (some 13) (.extract (.tm 8) 1) (.op (some 2) (.mov (.tm 12)) (.op (some 3) (.mov (.tm 13)) .nil))))))))
def crSpeaks_n3 : ACode := .reg (.op (some 15) (.loadA 46 (.tm 1)) (.op (some 16) (.build [.one (.int .i64 0), .one (.int .i64 0)] [(0, 1, (.cn (.int .i64 1)))]) (.op (some 17) (.call 67 [(.tm 15), (.tm 16)]) (.op (some 14) (.mov (.tm 17)) (.op (some 18) (.extract (.tm 14) 0) (.op (some 19) (.extract (.tm 14) 1) (.op (some 4) (.mov (.tm 18)) (.op (some 5) (.mov (.tm 19)) .nil))))))))
def crSpeaks_n4 : ACode := .reg (.op (some 20) (.mov (.tm 3)) (.op (some 21) (.mov (.tm 20)) (.grpJ 21 true (.op (some 22) (.mov (.tm 5)) .nil) 23 (.tm 22) (.cn (.bool false)) (.op (some 24) (.mov (.tm 23)) (.grpJ 24 true (.op (some 25) (.mov (.tm 2)) (.op (some 26) (.bin .eql (.tm 25) (.cn (.int .i64 192))) .nil)) 27 (.tm 26) (.cn (.bool false)) (.op (some 28) (.mov (.tm 27)) (.grpJ 28 true (.op (some 29) (.mov (.tm 4)) (.op (some 30) (.bin .eql (.tm 29) (.cn (.int .i64 224))) .nil)) 31 (.tm 30) (.cn (.bool false)) (.op (some 32) (.mov (.tm 31)) (.grpJ 32 true (.op (some 33) (.loadA 46 (.tm 1)) (.op (some 34) (.call 82 [(.tm 33)]) (.op (some 35) (.bin .eql (.tm 34) (.cn (.int .i64 256))) .nil))) 36 (.tm 35) (.cn (.bool false)) (.op (some 0) (.mov (.tm 36)) .nil))))))))))
def crSpeaks : ACode := (.seq crSpeaks_n0 (.seq crSpeaks_n1 (.seq crSpeaks_n2 (.seq crSpeaks_n3 (.seq crSpeaks_n4 .ret)))))
def RrSpeaks : Res := .one (.tm 0)
theorem crSpeaks_fits : fnFits Try.prog 66 0 37 crSpeaks RrSpeaks = true := by kernel_rfl
def GrSpeaks : Calls' := withP [pcqFit, pcrItemAt, pcrSize] []
theorem hGrSpeaks : CallOk Try.prog GrSpeaks := withP_ok ⟨sqFit, srItemAt, srSize, trivial⟩ trivial
section
variable {w0 : World} {fp : Nat → Nat → Prop} {ρi : Rho} {Kf : SVal → Heap → Prop}
theorem rrSpeaks_0 (v2 : Int) (h0 : PlanV) (v4 : Int) (Z : Env → Heap → Prop) (h : ∃ qq : Bool, ((PlanV.itemB h0 (ItemV.mk 0 1)) = true → (keeps ⟨1, [(0, some ⟨true, (PlanV.cs h0), 0⟩)]⟩ ⟨1, [(0, some ⟨true, (PlanV.cs h0), 0⟩)]⟩ [(0, some ⟨true, (PlanV.cs h0), 0⟩)]) ∧ (PlanV.itemB h0 (ItemV.mk 1 0)) = qq) ∧ ((PlanV.itemB h0 (ItemV.mk 0 1)) = false → false = qq) ∧ ∃ qq'1 : Bool, (qq = true → (keeps ⟨1, [(0, some ⟨true, (PlanV.cs h0), 0⟩)]⟩ ⟨1, [(0, some ⟨true, (PlanV.cs h0), 0⟩)]⟩ [(0, some ⟨true, (PlanV.cs h0), 0⟩)]) ∧ (v2 == 192) = qq'1) ∧ (qq = false → false = qq'1) ∧ ∃ qq'2 : Bool, (qq'1 = true → (keeps ⟨1, [(0, some ⟨true, (PlanV.cs h0), 0⟩)]⟩ ⟨1, [(0, some ⟨true, (PlanV.cs h0), 0⟩)]⟩ [(0, some ⟨true, (PlanV.cs h0), 0⟩)]) ∧ (v4 == 224) = qq'2) ∧ (qq'1 = false → false = qq'2) ∧ ∃ qq'3 : Bool, (qq'2 = true → (True) ∧ (keeps ⟨1, [(0, some ⟨true, (PlanV.cs h0), 0⟩)]⟩ ⟨1, [(0, some ⟨true, (PlanV.cs h0), 0⟩)]⟩ [(0, some ⟨true, (PlanV.cs h0), 0⟩)]) ∧ ((PlanV.size h0) == 256) = qq'3) ∧ (qq'2 = false → false = qq'3) ∧ Z [(0, some (.bool qq'3))] ⟨1, []⟩) : EvC GrSpeaks crSpeaks_n4 [(1, some (.ptr ⟨0, 0, 0, 1⟩ 46)), (2, some (.int .i64 v2)), (3, some (.bool (PlanV.itemB h0 (ItemV.mk 0 1)))), (4, some (.int .i64 v4)), (5, some (.bool (PlanV.itemB h0 (ItemV.mk 1 0))))] ⟨1, [(0, some ⟨true, (PlanV.cs h0), 0⟩)]⟩ [0] [] Z := EvC.of (by kernel_rfl) h
theorem rtrSpeaks_0 (h0 : PlanV) (v2 : Int) (v4 : Int) : RetC RrSpeaks [(0, some (.bool (((((PlanV.itemB h0 (ItemV.mk 0 1)) && (PlanV.itemB h0 (ItemV.mk 1 0))) && (v2 == 192)) && (v4 == 224)) && ((PlanV.size h0) == 256))))] ⟨1, []⟩ (.bool (((((PlanV.itemB h0 (ItemV.mk 0 1)) && (PlanV.itemB h0 (ItemV.mk 1 0))) && (v2 == 192)) && (v4 == 224)) && ((PlanV.size h0) == 256))) := RetC.of (fun Z => by kernel_rfl)
def vrSpeaks_0 (v2 : Int) (h0 : PlanV) (v4 : Int) : Prop := (((((PlanV.itemB h0 (ItemV.mk 0 1)) && (PlanV.itemB h0 (ItemV.mk 1 0))) && (v2 == 192)) && (v4 == 224)) && ((PlanV.size h0) == 256)) = true
theorem prSpeaks_0 (hK : Kf (.bool true) ⟨0, []⟩) (v2 : Int) (h0 : PlanV) (v4 : Int) (h : vrSpeaks_0 v2 h0 v4) : SemL Try.prog w0 fp ρi 0 37 [crSpeaks_n4, .ret] [(1, some (.ptr ⟨0, 0, 0, 1⟩ 46)), (2, some (.int .i64 v2)), (3, some (.bool (PlanV.itemB h0 (ItemV.mk 0 1)))), (4, some (.int .i64 v4)), (5, some (.bool (PlanV.itemB h0 (ItemV.mk 1 0))))] ⟨1, [(0, some ⟨true, (PlanV.cs h0), 0⟩)]⟩ (fnK RrSpeaks 0 Kf) :=
  L_regE hGrSpeaks (rrSpeaks_0 v2 h0 v4 (fun e H => SemL Try.prog w0 fp ρi 0 37 [.ret] e H (fnK RrSpeaks 0 Kf)) ⟨((PlanV.itemB h0 (ItemV.mk 0 1)) && (PlanV.itemB h0 (ItemV.mk 1 0))), fun hc_qq => ⟨(keeps_refl _), (qa1 hc_qq)⟩, fun hc_qq => qa2 hc_qq, ⟨(((PlanV.itemB h0 (ItemV.mk 0 1)) && (PlanV.itemB h0 (ItemV.mk 1 0))) && (v2 == 192)), fun hc_qq_1 => ⟨(keeps_refl _), (qa1 hc_qq_1)⟩, fun hc_qq_1 => qa2 hc_qq_1, ⟨((((PlanV.itemB h0 (ItemV.mk 0 1)) && (PlanV.itemB h0 (ItemV.mk 1 0))) && (v2 == 192)) && (v4 == 224)), fun hc_qq_2 => ⟨(keeps_refl _), (qa1 hc_qq_2)⟩, fun hc_qq_2 => qa2 hc_qq_2, ⟨(((((PlanV.itemB h0 (ItemV.mk 0 1)) && (PlanV.itemB h0 (ItemV.mk 1 0))) && (v2 == 192)) && (v4 == 224)) && ((PlanV.size h0) == 256)), fun hc_qq_3 => ⟨True.intro, ⟨(keeps_refl _), (qa1 hc_qq_3)⟩⟩, fun hc_qq_3 => qa2 hc_qq_3, (L_retE (R := RrSpeaks) (m := 0) (Kf := Kf) (fun _ _ h => h) (rtrSpeaks_0 h0 v2 v4) (ret_plain rfl (by kernel_rfl) (cg1 (fun (z1 : Bool) => (.bool z1 : SVal)) h) hK))⟩⟩⟩⟩)
theorem rrSpeaks_1 (v2 : Int) (h0 : PlanV) (Z : Env → Heap → Prop) (h : (True) ∧ Z [(1, some (.ptr ⟨0, 0, 0, 1⟩ 46)), (2, some (.int .i64 v2)), (3, some (.bool (PlanV.itemB h0 (ItemV.mk 0 1)))), (4, some (.int .i64 (PlanV.itemAt h0 (ItemV.mk 1 0)))), (5, some (.bool (PlanV.itemB h0 (ItemV.mk 1 0))))] ⟨1, [(0, some ⟨true, (PlanV.cs h0), 0⟩)]⟩) : EvC GrSpeaks crSpeaks_n3 [(1, some (.ptr ⟨0, 0, 0, 1⟩ 46)), (2, some (.int .i64 v2)), (3, some (.bool (PlanV.itemB h0 (ItemV.mk 0 1))))] ⟨1, [(0, some ⟨true, (PlanV.cs h0), 0⟩)]⟩ [1, 2, 3, 4, 5] [0] Z := EvC.of (by kernel_rfl) h
def vrSpeaks_1 (v2 : Int) (h0 : PlanV) : Prop := ∀ v4 : Int, v4 = (PlanV.itemAt h0 (ItemV.mk 1 0)) → vrSpeaks_0 v2 h0 v4
theorem prSpeaks_1 (hK : Kf (.bool true) ⟨0, []⟩) (v2 : Int) (h0 : PlanV) (h : vrSpeaks_1 v2 h0) : SemL Try.prog w0 fp ρi 0 37 [crSpeaks_n3, (.seq crSpeaks_n4 .ret)] [(1, some (.ptr ⟨0, 0, 0, 1⟩ 46)), (2, some (.int .i64 v2)), (3, some (.bool (PlanV.itemB h0 (ItemV.mk 0 1))))] ⟨1, [(0, some ⟨true, (PlanV.cs h0), 0⟩)]⟩ (fnK RrSpeaks 0 Kf) :=
  L_regE hGrSpeaks (rrSpeaks_1 v2 h0 (fun e H => SemL Try.prog w0 fp ρi 0 37 [(.seq crSpeaks_n4 .ret)] e H (fnK RrSpeaks 0 Kf)) ⟨True.intro, (L_seq (prSpeaks_0 hK v2 h0 (PlanV.itemAt h0 (ItemV.mk 1 0)) (h (PlanV.itemAt h0 (ItemV.mk 1 0)) rfl)))⟩)
theorem rrSpeaks_2 (h0 : PlanV) (Z : Env → Heap → Prop) (h : (True) ∧ Z [(1, some (.ptr ⟨0, 0, 0, 1⟩ 46)), (2, some (.int .i64 (PlanV.itemAt h0 (ItemV.mk 0 1)))), (3, some (.bool (PlanV.itemB h0 (ItemV.mk 0 1))))] ⟨1, [(0, some ⟨true, (PlanV.cs h0), 0⟩)]⟩) : EvC GrSpeaks crSpeaks_n2 [(1, some (.ptr ⟨0, 0, 0, 1⟩ 46))] ⟨1, [(0, some ⟨true, (PlanV.cs h0), 0⟩)]⟩ [1, 2, 3] [0] Z := EvC.of (by kernel_rfl) h
def vrSpeaks_2 (h0 : PlanV) : Prop := ∀ v2 : Int, v2 = (PlanV.itemAt h0 (ItemV.mk 0 1)) → vrSpeaks_1 v2 h0
theorem prSpeaks_2 (hK : Kf (.bool true) ⟨0, []⟩) (h0 : PlanV) (h : vrSpeaks_2 h0) : SemL Try.prog w0 fp ρi 0 37 [crSpeaks_n2, (.seq crSpeaks_n3 (.seq crSpeaks_n4 .ret))] [(1, some (.ptr ⟨0, 0, 0, 1⟩ 46))] ⟨1, [(0, some ⟨true, (PlanV.cs h0), 0⟩)]⟩ (fnK RrSpeaks 0 Kf) :=
  L_regE hGrSpeaks (rrSpeaks_2 h0 (fun e H => SemL Try.prog w0 fp ρi 0 37 [(.seq crSpeaks_n3 (.seq crSpeaks_n4 .ret))] e H (fnK RrSpeaks 0 Kf)) ⟨True.intro, (L_seq (prSpeaks_1 hK (PlanV.itemAt h0 (ItemV.mk 0 1)) h0 (h (PlanV.itemAt h0 (ItemV.mk 0 1)) rfl)))⟩)
theorem rrSpeaks_3 (Z : Env → Heap → Prop) (h : ((PlanV.Wf (PlanV.mk 0 0 2 2 2 0 0 0 0 0 0 0 0 0 (List.replicate 16 0) (List.replicate 16 0)))) ∧ Z [(1, some (.ptr ⟨0, 0, 0, 1⟩ 46))] ⟨1, [(0, some ⟨true, (PlanV.cs (PlanV.fit (PlanV.mk 0 0 2 2 2 0 0 0 0 0 0 0 0 0 (List.replicate 16 0) (List.replicate 16 0)))), 0⟩)]⟩) : EvC GrSpeaks crSpeaks_n1 [] ⟨0, []⟩ [1] [0] Z := EvC.of (by kernel_rfl) h
def vrSpeaks_3 : Prop := ((PlanV.Wf (PlanV.mk 0 0 2 2 2 0 0 0 0 0 0 0 0 0 (List.replicate 16 0) (List.replicate 16 0)))) ∧ (∀ h0 : PlanV, h0 = (PlanV.fit (PlanV.mk 0 0 2 2 2 0 0 0 0 0 0 0 0 0 (List.replicate 16 0) (List.replicate 16 0))) → vrSpeaks_2 h0)
theorem prSpeaks_3 (hK : Kf (.bool true) ⟨0, []⟩) (h : vrSpeaks_3) : SemL Try.prog w0 fp ρi 0 37 [crSpeaks_n1, (.seq crSpeaks_n2 (.seq crSpeaks_n3 (.seq crSpeaks_n4 .ret)))] [] ⟨0, []⟩ (fnK RrSpeaks 0 Kf) :=
  L_regE hGrSpeaks (rrSpeaks_3 (fun e H => SemL Try.prog w0 fp ρi 0 37 [(.seq crSpeaks_n2 (.seq crSpeaks_n3 (.seq crSpeaks_n4 .ret)))] e H (fnK RrSpeaks 0 Kf)) ⟨h.1, (L_seq (prSpeaks_2 hK (PlanV.fit (PlanV.mk 0 0 2 2 2 0 0 0 0 0 0 0 0 0 (List.replicate 16 0) (List.replicate 16 0))) (h.2 (PlanV.fit (PlanV.mk 0 0 2 2 2 0 0 0 0 0 0 0 0 0 (List.replicate 16 0) (List.replicate 16 0))) rfl)))⟩)
theorem rrSpeaks_4 (Z : Env → Heap → Prop) (h : Z [] ⟨0, []⟩) : EvC GrSpeaks crSpeaks_n0 [] ⟨0, []⟩ [] [] Z := EvC.of (by kernel_rfl) h
def vrSpeaks_4 : Prop := vrSpeaks_3
theorem prSpeaks_4 (hK : Kf (.bool true) ⟨0, []⟩) (h : vrSpeaks_4) : SemL Try.prog w0 fp ρi 0 37 [crSpeaks_n0, (.seq crSpeaks_n1 (.seq crSpeaks_n2 (.seq crSpeaks_n3 (.seq crSpeaks_n4 .ret))))] [] ⟨0, []⟩ (fnK RrSpeaks 0 Kf) :=
  L_regE hGrSpeaks (rrSpeaks_4 (fun e H => SemL Try.prog w0 fp ρi 0 37 [(.seq crSpeaks_n1 (.seq crSpeaks_n2 (.seq crSpeaks_n3 (.seq crSpeaks_n4 .ret))))] e H (fnK RrSpeaks 0 Kf)) (L_seq (prSpeaks_3 hK h)))
def vcrSpeaks : Prop := vrSpeaks_4
theorem wrSpeaks (hK : Kf (.bool true) ⟨0, []⟩) (h : vcrSpeaks) : SemL Try.prog w0 fp ρi 0 37 [crSpeaks] [] ⟨0, []⟩ (fnK RrSpeaks 0 Kf) :=
  (L_seq (prSpeaks_4 hK h))
end
theorem okrSpeaks (hpre : True) : vcrSpeaks := by
  unfold vcrSpeaks vrSpeaks_4 vrSpeaks_3 vrSpeaks_2 vrSpeaks_1 vrSpeaks_0
  refine ⟨by simp [PlanV.Wf, I64], ?_⟩
  rintro _ rfl _ rfl _ rfl
  decide +kernel
theorem srSpeaks : Sound Try.prog 66 (pureS PrSpeaks) := by
  refine fn_soundA crSpeaks_fits ?_
  intro args H K h
  obtain ⟨pre, v, hP, hpre, rfl, hK⟩ := pureS_inv h
  unfold PrSpeaks at hP
  split at hP
  · cases hP
    exact ⟨rfl, fun w0 fp ρi => wrSpeaks hK (okrSpeaks hpre)⟩
  · cases hP
end Go.Proofs.Ytlmcdbgcbmjilaa
