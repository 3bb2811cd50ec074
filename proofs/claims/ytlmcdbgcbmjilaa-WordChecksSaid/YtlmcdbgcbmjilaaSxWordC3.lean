/- Walks, printed by vcg. -/
import Derived.Test.YtlmcdbgcbmjilaaSxWordW
import Derived.Test.YtlmcdbgcbmjilaaSxWordK2
import Derived.KernelRfl
set_option linter.unusedVariables false
set_option linter.unusedSimpArgs false
namespace Go.Proofs.Ytlmcdbgcbmjilaa
open Go.Sx
def PwSpeaks : PSpec := fun args => match args with
  | [] => some (True, .bool true)
  | _ => none
def pcwSpeaks : PCon := ⟨59, PwSpeaks⟩
def cwSpeaks_n0 : ACode := .reg (.op (some 0) (.mov (.cn (.bool false))) .nil)
def cwSpeaks_n1 : ACode := .reg (.op (some 4) (.build [.one (.int .i64 0), .one (.int .i64 0), .one (.int .i64 0), .one (.int .u64 0), .one (.int .u64 0)] [(0, 1, (.cn (.int .i64 4))), (2, 1, (.cn (.int .i64 2))), (3, 1, (.cn (.int .u64 255)))]) (.op (some 5) (.buildI .u8 32 [(0, (.cn (.int .u8 1))), (1, (.cn (.int .u8 1)))]) (.op (some 6) (.call 60 [(.tm 4), (.tm 5)]) (.op (some 3) (.mov (.tm 6)) (.op (some 7) (.extract (.tm 3) 0) (.op (some 8) (.extract (.tm 3) 1) (.op (some 1) (.alloc [.ints .u8 32 (List.replicate 32 0)]) (.op none (.storeA 32 (.tm 1) (.tm 7)) (.op (some 2) (.mov (.tm 8)) .nil)))))))))
def cwSpeaks_n2 : ACode := .reg (.op (some 9) (.mov (.tm 2)) (.op (some 10) (.bin .eql (.tm 9) (.cn (.int .u64 257))) (.op (some 11) (.mov (.tm 10)) (.grpJ 11 true (.op (some 12) (.loadA 32 (.tm 1)) (.op (some 13) (.buildI .u8 32 [(0, (.cn (.int .u8 0))), (1, (.cn (.int .u8 2)))]) (.op (some 14) (.eqA false [.ints .u8 32 (List.replicate 32 0)] (.tm 12) (.tm 13)) .nil))) 15 (.tm 14) (.cn (.bool false)) (.op (some 0) (.mov (.tm 15)) .nil)))))
def cwSpeaks : ACode := (.seq cwSpeaks_n0 (.seq cwSpeaks_n1 (.seq cwSpeaks_n2 .ret)))
def RwSpeaks : Res := .one (.tm 0)
theorem cwSpeaks_fits : fnFits Try.prog 59 0 16 cwSpeaks RwSpeaks = true := by kernel_rfl
def GwSpeaks : Calls' := withP [pcwDo] []
theorem hGwSpeaks : CallOk Try.prog GwSpeaks := withP_ok ⟨swDo, trivial⟩ trivial
section
variable {w0 : World} {fp : Nat → Nat → Prop} {ρi : Rho} {Kf : SVal → Heap → Prop}
theorem rwSpeaks_0 (v2 : Int) (h0 : List Int) (Z : Env → Heap → Prop) (h : ∃ qq : Bool, ((v2 == 257) = true → ((List.length h0 = 32)) ∧ ((List.length [0, 2, 0, 0, 0, 0, 0, 0, 0, 0, 0, 0, 0, 0, 0, 0, 0, 0, 0, 0, 0, 0, 0, 0, 0, 0, 0, 0, 0, 0, 0, 0] = 32)) ∧ (keeps ⟨1, [(0, some ⟨true, [.ints .u8 32 h0], 0⟩)]⟩ ⟨1, [(0, some ⟨true, [.ints .u8 32 h0], 0⟩)]⟩ [(0, some ⟨true, [.ints .u8 32 h0], 0⟩)]) ∧ ((h0 == [0, 2, 0, 0, 0, 0, 0, 0, 0, 0, 0, 0, 0, 0, 0, 0, 0, 0, 0, 0, 0, 0, 0, 0, 0, 0, 0, 0, 0, 0, 0, 0]) && true) = qq) ∧ ((v2 == 257) = false → false = qq) ∧ Z [(0, some (.bool qq))] ⟨1, []⟩) : EvC GwSpeaks cwSpeaks_n2 [(1, some (.ptr ⟨0, 0, 0, 1⟩ 32)), (2, some (.int .u64 v2))] ⟨1, [(0, some ⟨true, [.ints .u8 32 h0], 0⟩)]⟩ [0] [] Z := EvC.of (by kernel_rfl) h
theorem rtwSpeaks_0 (v2 : Int) (h0 : List Int) : RetC RwSpeaks [(0, some (.bool ((v2 == 257) && ((h0 == [0, 2, 0, 0, 0, 0, 0, 0, 0, 0, 0, 0, 0, 0, 0, 0, 0, 0, 0, 0, 0, 0, 0, 0, 0, 0, 0, 0, 0, 0, 0, 0]) && true))))] ⟨1, []⟩ (.bool ((v2 == 257) && ((h0 == [0, 2, 0, 0, 0, 0, 0, 0, 0, 0, 0, 0, 0, 0, 0, 0, 0, 0, 0, 0, 0, 0, 0, 0, 0, 0, 0, 0, 0, 0, 0, 0]) && true))) := RetC.of (fun Z => by kernel_rfl)
def vwSpeaks_0 (v2 : Int) (h0 : List Int) : Prop := ((v2 == 257) = true → ((List.length h0 = 32))) ∧ (((v2 == 257) && ((h0 == [0, 2, 0, 0, 0, 0, 0, 0, 0, 0, 0, 0, 0, 0, 0, 0, 0, 0, 0, 0, 0, 0, 0, 0, 0, 0, 0, 0, 0, 0, 0, 0]) && true)) = true)
theorem pwSpeaks_0 (hK : Kf (.bool true) ⟨0, []⟩) (v2 : Int) (h0 : List Int) (h : vwSpeaks_0 v2 h0) : SemL Try.prog w0 fp ρi 0 16 [cwSpeaks_n2, .ret] [(1, some (.ptr ⟨0, 0, 0, 1⟩ 32)), (2, some (.int .u64 v2))] ⟨1, [(0, some ⟨true, [.ints .u8 32 h0], 0⟩)]⟩ (fnK RwSpeaks 0 Kf) :=
  L_regE hGwSpeaks (rwSpeaks_0 v2 h0 (fun e H => SemL Try.prog w0 fp ρi 0 16 [.ret] e H (fnK RwSpeaks 0 Kf)) ⟨((v2 == 257) && ((h0 == [0, 2, 0, 0, 0, 0, 0, 0, 0, 0, 0, 0, 0, 0, 0, 0, 0, 0, 0, 0, 0, 0, 0, 0, 0, 0, 0, 0, 0, 0, 0, 0]) && true)), fun hc_qq => ⟨(h.1 hc_qq), ⟨(by simp), ⟨(keeps_refl _), (qa1 hc_qq)⟩⟩⟩, fun hc_qq => qa2 hc_qq, (L_retE (R := RwSpeaks) (m := 0) (Kf := Kf) (fun _ _ h => h) (rtwSpeaks_0 v2 h0) (ret_plain rfl (by kernel_rfl) (cg1 (fun (z1 : Bool) => (.bool z1 : SVal)) h.2) hK))⟩)
theorem rwSpeaks_1 (Z : Env → Heap → Prop) (h : ((OpV.Wf (OpV.mk 4 0 2 255 0) ∧ LineOk [1, 1, 0, 0, 0, 0, 0, 0, 0, 0, 0, 0, 0, 0, 0, 0, 0, 0, 0, 0, 0, 0, 0, 0, 0, 0, 0, 0, 0, 0, 0, 0])) ∧ Z [(1, some (.ptr ⟨0, 0, 0, 1⟩ 32)), (2, some (.int .u64 (OpV.result (OpV.mk 4 0 2 255 0) [1, 1, 0, 0, 0, 0, 0, 0, 0, 0, 0, 0, 0, 0, 0, 0, 0, 0, 0, 0, 0, 0, 0, 0, 0, 0, 0, 0, 0, 0, 0, 0])))] ⟨1, [(0, some ⟨true, [.ints .u8 32 (OpV.next (OpV.mk 4 0 2 255 0) [1, 1, 0, 0, 0, 0, 0, 0, 0, 0, 0, 0, 0, 0, 0, 0, 0, 0, 0, 0, 0, 0, 0, 0, 0, 0, 0, 0, 0, 0, 0, 0])], 0⟩)]⟩) : EvC GwSpeaks cwSpeaks_n1 [] ⟨0, []⟩ [1, 2] [0] Z := EvC.of (by kernel_rfl) h
def vwSpeaks_1 : Prop := ((OpV.Wf (OpV.mk 4 0 2 255 0) ∧ LineOk [1, 1, 0, 0, 0, 0, 0, 0, 0, 0, 0, 0, 0, 0, 0, 0, 0, 0, 0, 0, 0, 0, 0, 0, 0, 0, 0, 0, 0, 0, 0, 0])) ∧ (∀ v2 : Int, v2 = (OpV.result (OpV.mk 4 0 2 255 0) [1, 1, 0, 0, 0, 0, 0, 0, 0, 0, 0, 0, 0, 0, 0, 0, 0, 0, 0, 0, 0, 0, 0, 0, 0, 0, 0, 0, 0, 0, 0, 0]) → ∀ h0 : List Int, h0 = (OpV.next (OpV.mk 4 0 2 255 0) [1, 1, 0, 0, 0, 0, 0, 0, 0, 0, 0, 0, 0, 0, 0, 0, 0, 0, 0, 0, 0, 0, 0, 0, 0, 0, 0, 0, 0, 0, 0, 0]) → vwSpeaks_0 v2 h0)
theorem pwSpeaks_1 (hK : Kf (.bool true) ⟨0, []⟩) (h : vwSpeaks_1) : SemL Try.prog w0 fp ρi 0 16 [cwSpeaks_n1, (.seq cwSpeaks_n2 .ret)] [] ⟨0, []⟩ (fnK RwSpeaks 0 Kf) :=
  L_regE hGwSpeaks (rwSpeaks_1 (fun e H => SemL Try.prog w0 fp ρi 0 16 [(.seq cwSpeaks_n2 .ret)] e H (fnK RwSpeaks 0 Kf)) ⟨h.1, (L_seq (pwSpeaks_0 hK (OpV.result (OpV.mk 4 0 2 255 0) [1, 1, 0, 0, 0, 0, 0, 0, 0, 0, 0, 0, 0, 0, 0, 0, 0, 0, 0, 0, 0, 0, 0, 0, 0, 0, 0, 0, 0, 0, 0, 0]) (OpV.next (OpV.mk 4 0 2 255 0) [1, 1, 0, 0, 0, 0, 0, 0, 0, 0, 0, 0, 0, 0, 0, 0, 0, 0, 0, 0, 0, 0, 0, 0, 0, 0, 0, 0, 0, 0, 0, 0]) ((h.2 (OpV.result (OpV.mk 4 0 2 255 0) [1, 1, 0, 0, 0, 0, 0, 0, 0, 0, 0, 0, 0, 0, 0, 0, 0, 0, 0, 0, 0, 0, 0, 0, 0, 0, 0, 0, 0, 0, 0, 0]) rfl) (OpV.next (OpV.mk 4 0 2 255 0) [1, 1, 0, 0, 0, 0, 0, 0, 0, 0, 0, 0, 0, 0, 0, 0, 0, 0, 0, 0, 0, 0, 0, 0, 0, 0, 0, 0, 0, 0, 0, 0]) rfl)))⟩)
theorem rwSpeaks_2 (Z : Env → Heap → Prop) (h : Z [] ⟨0, []⟩) : EvC GwSpeaks cwSpeaks_n0 [] ⟨0, []⟩ [] [] Z := EvC.of (by kernel_rfl) h
def vwSpeaks_2 : Prop := vwSpeaks_1
theorem pwSpeaks_2 (hK : Kf (.bool true) ⟨0, []⟩) (h : vwSpeaks_2) : SemL Try.prog w0 fp ρi 0 16 [cwSpeaks_n0, (.seq cwSpeaks_n1 (.seq cwSpeaks_n2 .ret))] [] ⟨0, []⟩ (fnK RwSpeaks 0 Kf) :=
  L_regE hGwSpeaks (rwSpeaks_2 (fun e H => SemL Try.prog w0 fp ρi 0 16 [(.seq cwSpeaks_n1 (.seq cwSpeaks_n2 .ret))] e H (fnK RwSpeaks 0 Kf)) (L_seq (pwSpeaks_1 hK h)))
def vcwSpeaks : Prop := vwSpeaks_2
theorem wwSpeaks (hK : Kf (.bool true) ⟨0, []⟩) (h : vcwSpeaks) : SemL Try.prog w0 fp ρi 0 16 [cwSpeaks] [] ⟨0, []⟩ (fnK RwSpeaks 0 Kf) :=
  (L_seq (pwSpeaks_2 hK h))
end
theorem okwSpeaks (hpre : True) : vcwSpeaks := by
  unfold vcwSpeaks vwSpeaks_2 vwSpeaks_1 vwSpeaks_0
  refine ⟨⟨⟨by unfold I64; decide, by unfold I64; decide, by unfold I64; decide, by decide, by decide⟩, by decide, by decide⟩, ?_⟩
  rintro _ rfl _ rfl
  refine ⟨fun _ => rfl, ?_⟩
  decide
theorem swSpeaks : Sound Try.prog 59 (pureS PwSpeaks) := by
  refine fn_soundA cwSpeaks_fits ?_
  intro args H K h
  obtain ⟨pre, v, hP, hpre, rfl, hK⟩ := pureS_inv h
  unfold PwSpeaks at hP
  split at hP
  · cases hP
    exact ⟨rfl, fun w0 fp ρi => wwSpeaks hK (okwSpeaks hpre)⟩
  · cases hP
def PwordChecks : PSpec := fun args => match args with
  | [.agg [.one (.int .i64 p_0), .one (.int .i64 p_1), .one (.int .i64 p_2), .one (.int .i64 p_3), .one (.int .i64 p_4), .one (.int .i64 p_5), .one (.int .u64 p_6), .one (.int .i64 p_7), .one (.int .i64 p_8), .one (.int .i64 p_9), .one (.int .i64 p_10), .one (.int .i64 p_11), .one (.int .i64 p_12), .one (.int .i64 p_13), .ints .u8 p_14_n p_14, .ints .u8 p_15_n p_15], .agg [.one (.int .i64 o_0), .one (.int .i64 o_1), .one (.int .i64 o_2), .one (.int .u64 o_3), .one (.int .u64 o_4)]] => bif Nat.beq p_14_n 16 && Nat.beq p_15_n 16 then some ((PlanV.Wf (PlanV.mk p_0 p_1 p_2 p_3 p_4 p_5 p_6 p_7 p_8 p_9 p_10 p_11 p_12 p_13 p_14 p_15) ∧ OpV.Wf (OpV.mk o_0 o_1 o_2 o_3 o_4)), .bool true) else none
  | _ => none
def pcwordChecks : PCon := ⟨28, PwordChecks⟩
def cwordChecks_n0 : ACode := .reg (.op (some 2) (.box (.tm 0)) (.op (some 3) (.box (.tm 1)) (.op (some 4) (.mov (.cn (.bool false))) .nil)))
def cwordChecks_n1 : ACode := .reg (.op (some 8) (.call 59 []) (.op (some 9) (.not (.tm 8)) .nil))
def cwordChecks_n2 : ACode := .reg (.op (some 4) (.mov (.cn (.bool false))) .nil)
def cwordChecks_n3 : ACode := .cond (.tm 9) (.seq cwordChecks_n2 .ret) .skip
def cwordChecks_n4 : ACode := .reg (.op (some 10) (.loadA 46 (.tm 2)) (.op (some 11) (.loadA 5 (.tm 3)) (.op (some 12) (.call 107 [(.tm 10), (.tm 11)]) (.op (some 5) (.mov (.tm 12)) .nil))))
def cwordChecks_n5 : ACode := .reg (.op (some 14) (.loadA 46 (.tm 2)) (.op (some 15) (.loadA 5 (.tm 3)) (.op (some 16) (.call 108 [(.tm 14), (.tm 15)]) (.op (some 13) (.mov (.tm 16)) (.op (some 17) (.extract (.tm 13) 0) (.op (some 18) (.extract (.tm 13) 1) (.op (some 6) (.mov (.tm 17)) (.op (some 7) (.mov (.tm 18)) .nil))))))))
def cwordChecks_n6i : Items := .op (some 19) (.loadA 46 (.tm 2)) (.op (some 20) (.loadA 5 (.tm 3)) (.op (some 21) (.call 109 [(.tm 19), (.tm 20)]) (.op (some 22) (.mov (.tm 5)) (.op (some 23) (.bin .neq (.tm 21) (.tm 22)) (.op (some 24) (.mov (.tm 23)) (.grpJ 24 false (.op (some 25) (.loadA 5 (.tm 3)) (.op (some 26) (.call 63 [(.tm 25)]) (.op (some 27) (.loadA 5 (.tm 3)) (.op (some 28) (.call 110 [(.tm 27)]) (.op (some 29) (.beq2 true (.tm 26) (.tm 28)) .nil))))) 30 (.tm 29) (.cn (.bool true)) (.op (some 31) (.mov (.tm 30)) (.grpJ 31 false (.op (some 32) (.mov (.tm 7)) (.op (some 33) (.mov (.tm 5)) (.op (some 34) (.bin .eql (.tm 33) (.cn (.int .i64 0))) (.op (some 35) (.mov (.tm 34)) (.grpJ 35 true (.op (some 36) (.fieldAddr (.tm 3) 0 1) (.op (some 37) (.load1 (.tm 36)) (.op (some 38) (.bin .neq (.tm 37) (.cn (.int .i64 6))) .nil))) 39 (.tm 38) (.cn (.bool false)) (.op (some 40) (.beq2 true (.tm 32) (.tm 39)) .nil)))))) 41 (.tm 40) (.cn (.bool true)) .nil))))))))
def cwordChecks_n6 : ACode := .regQ cwordChecks_n6i
def cwordChecks_n7 : ACode := .reg (.op (some 4) (.mov (.cn (.bool false))) .nil)
def cwordChecks_n8 : ACode := .cond (.tm 41) (.seq cwordChecks_n7 .ret) .skip
def cwordChecks_n9 : ACode := .reg (.op (some 42) (.mov (.tm 7)) (.op (some 43) (.mov (.tm 42)) (.grpJ 43 true (.op (some 44) (.mov (.tm 6)) (.op (some 45) (.fieldAddr (.tm 3) 1 1) (.op (some 46) (.load1 (.tm 45)) (.op (some 47) (.bin .quo (.tm 46) (.cn (.int .i64 32))) (.op (some 48) (.bin .eql (.tm 44) (.tm 47)) .nil))))) 49 (.tm 48) (.cn (.bool false)) (.op (some 50) (.mov (.tm 49)) (.grpJ 50 false (.op (some 51) (.mov (.tm 7)) (.op (some 52) (.not (.tm 51)) (.op (some 53) (.mov (.tm 52)) (.grpJ 53 true (.op (some 54) (.mov (.tm 6)) (.op (some 55) (.bin .eql (.tm 54) (.cn (.int .i64 0))) .nil)) 56 (.tm 55) (.cn (.bool false)) .nil)))) 57 (.tm 56) (.cn (.bool true)) (.op (some 4) (.mov (.tm 57)) .nil))))))
def cwordChecks : ACode := (.seq cwordChecks_n0 (.seq (.seq cwordChecks_n1 cwordChecks_n3) (.seq cwordChecks_n4 (.seq cwordChecks_n5 (.seq (.seq cwordChecks_n6 cwordChecks_n8) (.seq cwordChecks_n9 .ret))))))
def RwordChecks : Res := .one (.tm 4)
theorem cwordChecks_fits : fnFits Try.prog 28 2 58 cwordChecks RwordChecks = true := by kernel_rfl
def GwordChecks : Calls' := withP [pcwSpeaks, pcwChanges, pcq16Check, pcwLine, pcwCheck, pcqChanges] []
theorem hGwordChecks : CallOk Try.prog GwordChecks := withP_ok ⟨swSpeaks, swChanges, sq16Check, swLine, swCheck, sqChanges, trivial⟩ trivial
section
variable {w0 : World} {fp : Nat → Nat → Prop} {ρi : Rho} {Kf : SVal → Heap → Prop}
theorem rwordChecks_0 (p : PlanV) (o : OpV) (Z : Env → Heap → Prop) (h : Z [(4, some (.bool false))] ⟨2, []⟩) : EvC GwordChecks cwordChecks_n7 [] ⟨2, []⟩ [4] [] Z := EvC.of (by kernel_rfl) h
theorem rtwordChecks_0 (p : PlanV) (o : OpV) : RetC RwordChecks [(4, some (.bool false))] ⟨2, []⟩ (.bool false) := RetC.of (fun Z => by kernel_rfl)
def vwordChecks_0 (p : PlanV) (o : OpV) : Prop := false = true
theorem pwordChecks_0 (p : PlanV) (o : OpV) (hK : Kf (.bool true) ⟨0, []⟩) (h : vwordChecks_0 p o) : SemL Try.prog w0 fp ρi 0 58 [cwordChecks_n7, .ret, (.seq cwordChecks_n9 .ret)] [] ⟨2, []⟩ (fnK RwordChecks 0 Kf) :=
  L_regE hGwordChecks (rwordChecks_0 p o (fun e H => SemL Try.prog w0 fp ρi 0 58 [.ret, (.seq cwordChecks_n9 .ret)] e H (fnK RwordChecks 0 Kf)) (L_retE (R := RwordChecks) (m := 0) (Kf := Kf) (fun _ _ h => h) (rtwordChecks_0 p o) (ret_plain rfl (by kernel_rfl) (cg1 (fun (z1 : Bool) => (.bool z1 : SVal)) h) hK)))
theorem rwordChecks_1 (p : PlanV) (o : OpV) (v6 : Int) (Z : Env → Heap → Prop) (h : ∃ qq'3 : Bool, ((PlanV.opB p o) = true → (((32 : Int) ≠ 0)) ∧ (keeps ⟨2, [(1, some ⟨true, (OpV.cs o), 0⟩)]⟩ ⟨2, [(1, some ⟨true, (OpV.cs o), 0⟩)]⟩ [(1, some ⟨true, (OpV.cs o), 0⟩)]) ∧ (v6 == (IntKind.i64.wrap (Int.tdiv o.oat 32))) = qq'3) ∧ ((PlanV.opB p o) = false → false = qq'3) ∧ ∃ qq'4 : Bool, (qq'3 = false → ∃ qq'5 : Bool, ((!(PlanV.opB p o)) = true → (keeps ⟨2, [(1, some ⟨true, (OpV.cs o), 0⟩)]⟩ ⟨2, [(1, some ⟨true, (OpV.cs o), 0⟩)]⟩ [(1, some ⟨true, (OpV.cs o), 0⟩)]) ∧ (v6 == 0) = qq'5) ∧ ((!(PlanV.opB p o)) = false → false = qq'5) ∧ (keeps ⟨2, [(1, some ⟨true, (OpV.cs o), 0⟩)]⟩ ⟨2, [(1, some ⟨true, (OpV.cs o), 0⟩)]⟩ [(1, some ⟨true, (OpV.cs o), 0⟩)]) ∧ qq'5 = qq'4) ∧ (qq'3 = true → true = qq'4) ∧ Z [(4, some (.bool qq'4))] ⟨2, []⟩) : EvC GwordChecks cwordChecks_n9 [(3, some (.ptr ⟨1, 0, 0, 1⟩ 5)), (6, some (.int .i64 v6)), (7, some (.bool (PlanV.opB p o)))] ⟨2, [(1, some ⟨true, (OpV.cs o), 0⟩)]⟩ [4] [] Z := EvC.of (by kernel_rfl) h
theorem rtwordChecks_1 (p : PlanV) (o : OpV) (v6 : Int) : RetC RwordChecks [(4, some (.bool (((PlanV.opB p o) && (v6 == (IntKind.i64.wrap (Int.tdiv o.oat 32)))) || ((!(PlanV.opB p o)) && (v6 == 0)))))] ⟨2, []⟩ (.bool (((PlanV.opB p o) && (v6 == (IntKind.i64.wrap (Int.tdiv o.oat 32)))) || ((!(PlanV.opB p o)) && (v6 == 0)))) := RetC.of (fun Z => by kernel_rfl)
def vwordChecks_1 (p : PlanV) (o : OpV) (v6 : Int) : Prop := (((PlanV.opB p o) && (v6 == (IntKind.i64.wrap (Int.tdiv o.oat 32)))) || ((!(PlanV.opB p o)) && (v6 == 0))) = true
theorem pwordChecks_1 (p : PlanV) (o : OpV) (hK : Kf (.bool true) ⟨0, []⟩) (v6 : Int) (h : vwordChecks_1 p o v6) : SemL Try.prog w0 fp ρi 0 58 [cwordChecks_n9, .ret] [(3, some (.ptr ⟨1, 0, 0, 1⟩ 5)), (6, some (.int .i64 v6)), (7, some (.bool (PlanV.opB p o)))] ⟨2, [(1, some ⟨true, (OpV.cs o), 0⟩)]⟩ (fnK RwordChecks 0 Kf) :=
  L_regE hGwordChecks (rwordChecks_1 p o v6 (fun e H => SemL Try.prog w0 fp ρi 0 58 [.ret] e H (fnK RwordChecks 0 Kf)) ⟨((PlanV.opB p o) && (v6 == (IntKind.i64.wrap (Int.tdiv o.oat 32)))), fun hc_qq_3 => ⟨(by decide), ⟨(keeps_refl _), (qa1 hc_qq_3)⟩⟩, fun hc_qq_3 => qa2 hc_qq_3, ⟨(((PlanV.opB p o) && (v6 == (IntKind.i64.wrap (Int.tdiv o.oat 32)))) || ((!(PlanV.opB p o)) && (v6 == 0))), fun hc_qq_4 => ⟨((!(PlanV.opB p o)) && (v6 == 0)), fun hc_qq_5 => ⟨(keeps_refl _), (qa1 hc_qq_5)⟩, fun hc_qq_5 => qa2 hc_qq_5, ⟨(keeps_refl _), (qo1 hc_qq_4)⟩⟩, fun hc_qq_4 => qo2 hc_qq_4, (L_retE (R := RwordChecks) (m := 0) (Kf := Kf) (fun _ _ h => h) (rtwordChecks_1 p o v6) (ret_plain rfl (by kernel_rfl) (cg1 (fun (z1 : Bool) => (.bool z1 : SVal)) h) hK))⟩⟩)
def vwordChecks_2 (p : PlanV) (o : OpV) (v6 : Int) (v5 : Int) : Prop := (((((PlanV.opCode p o) != v5) || (!((chgB o.okind) == (chgB o.okind)))) || (!((PlanV.opB p o) == ((v5 == 0) && (o.okind != 6))))) = true → (vwordChecks_0 p o)) ∧ (((((PlanV.opCode p o) != v5) || (!((chgB o.okind) == (chgB o.okind)))) || (!((PlanV.opB p o) == ((v5 == 0) && (o.okind != 6))))) = false → (vwordChecks_1 p o v6))
theorem pwordChecks_2 (p : PlanV) (o : OpV) (hK : Kf (.bool true) ⟨0, []⟩) (v6 : Int) (v5 : Int) (h : vwordChecks_2 p o v6 v5) : SemL Try.prog w0 fp ρi 0 58 [cwordChecks_n8, (.seq cwordChecks_n9 .ret)] [(3, some (.ptr ⟨1, 0, 0, 1⟩ 5)), (6, some (.int .i64 v6)), (7, some (.bool (PlanV.opB p o))), (41, some (.bool ((((PlanV.opCode p o) != v5) || (!((chgB o.okind) == (chgB o.okind)))) || (!((PlanV.opB p o) == ((v5 == 0) && (o.okind != 6)))))))] ⟨2, [(1, some ⟨true, (OpV.cs o), 0⟩)]⟩ (fnK RwordChecks 0 Kf) :=
  L_cond (q := ((((PlanV.opCode p o) != v5) || (!((chgB o.okind) == (chgB o.okind)))) || (!((PlanV.opB p o) == ((v5 == 0) && (o.okind != 6)))))) (by kernel_rfl) (fun hq => (L_seq (L_pick (e' := []) (H' := ⟨2, []⟩) [] [] (by kernel_rfl) (by kernel_rfl) (pwordChecks_0 p o hK (h.1 hq))))) (fun hq => (L_skip (L_pick (e' := [(3, some (.ptr ⟨1, 0, 0, 1⟩ 5)), (6, some (.int .i64 v6)), (7, some (.bool (PlanV.opB p o)))]) (H' := ⟨2, [(1, some ⟨true, (OpV.cs o), 0⟩)]⟩) [3, 6, 7] [1] (by kernel_rfl) (by kernel_rfl) (L_seq (pwordChecks_1 p o hK v6 (h.2 hq))))))
theorem rwordChecks_3 (p : PlanV) (o : OpV) (v5 : Int) (v6 : Int) (Z : Env → Heap → Prop) (h : ((SVal.bd 2 (.int .i64 (PlanV.opCode p o)))) ∧ ((OpV.Wf o) ∧ ((.int .i64 (PlanV.opCode p o) : SVal) = .int .i64 (PlanV.opCode p o)) ∧ (keeps ⟨2, [(0, some ⟨true, (PlanV.cs p), 0⟩), (1, some ⟨true, (OpV.cs o), 0⟩)]⟩ ⟨2, [(0, some ⟨true, (PlanV.cs p), 0⟩), (1, some ⟨true, (OpV.cs o), 0⟩)]⟩ [(0, some ⟨true, (PlanV.cs p), 0⟩), (1, some ⟨true, (OpV.cs o), 0⟩)])) ∧ ∃ qq : Bool, (((PlanV.opCode p o) != v5) = false → ((SVal.bd 2 (.bool (chgB o.okind)))) ∧ (True ∧ ((.bool (chgB o.okind) : SVal) = .bool (chgB o.okind)) ∧ (keeps ⟨2, [(0, some ⟨true, (PlanV.cs p), 0⟩), (1, some ⟨true, (OpV.cs o), 0⟩)]⟩ ⟨2, [(0, some ⟨true, (PlanV.cs p), 0⟩), (1, some ⟨true, (OpV.cs o), 0⟩)]⟩ [(0, some ⟨true, (PlanV.cs p), 0⟩), (1, some ⟨true, (OpV.cs o), 0⟩)])) ∧ ((SVal.bd 2 (.bool (chgB o.okind)))) ∧ (True ∧ ((.bool (chgB o.okind) : SVal) = .bool (chgB o.okind)) ∧ (keeps ⟨2, [(0, some ⟨true, (PlanV.cs p), 0⟩), (1, some ⟨true, (OpV.cs o), 0⟩)]⟩ ⟨2, [(0, some ⟨true, (PlanV.cs p), 0⟩), (1, some ⟨true, (OpV.cs o), 0⟩)]⟩ [(0, some ⟨true, (PlanV.cs p), 0⟩), (1, some ⟨true, (OpV.cs o), 0⟩)])) ∧ (!((chgB o.okind) == (chgB o.okind))) = qq) ∧ (((PlanV.opCode p o) != v5) = true → true = qq) ∧ ∃ qq'1 : Bool, (qq = false → ∃ qq'2 : Bool, ((v5 == 0) = true → (o.okind != 6) = qq'2) ∧ ((v5 == 0) = false → false = qq'2) ∧ (!((PlanV.opB p o) == qq'2)) = qq'1) ∧ (qq = true → true = qq'1) ∧ Z [(3, some (.ptr ⟨1, 0, 0, 1⟩ 5)), (6, some (.int .i64 v6)), (7, some (.bool (PlanV.opB p o))), (41, some (.bool qq'1))] ⟨2, [(1, some ⟨true, (OpV.cs o), 0⟩)]⟩) : EvQC GwordChecks cwordChecks_n6i [.int .i64 (PlanV.opCode p o), .bool (chgB o.okind), .bool (chgB o.okind)] [(2, some (.ptr ⟨0, 0, 0, 1⟩ 46)), (3, some (.ptr ⟨1, 0, 0, 1⟩ 5)), (5, some (.int .i64 v5)), (6, some (.int .i64 v6)), (7, some (.bool (PlanV.opB p o)))] ⟨2, [(0, some ⟨true, (PlanV.cs p), 0⟩), (1, some ⟨true, (OpV.cs o), 0⟩)]⟩ [3, 6, 7, 41] [1] Z := EvQC.of (by kernel_rfl) h
def vwordChecks_3 (p : PlanV) (o : OpV) (v5 : Int) (v6 : Int) : Prop := ((OpV.Wf o)) ∧ (vwordChecks_2 p o v6 v5)
theorem pwordChecks_3 (p : PlanV) (o : OpV) (hK : Kf (.bool true) ⟨0, []⟩) (v5 : Int) (v6 : Int) (h : vwordChecks_3 p o v5 v6) : SemL Try.prog w0 fp ρi 0 58 [cwordChecks_n6, cwordChecks_n8, (.seq cwordChecks_n9 .ret)] [(2, some (.ptr ⟨0, 0, 0, 1⟩ 46)), (3, some (.ptr ⟨1, 0, 0, 1⟩ 5)), (5, some (.int .i64 v5)), (6, some (.int .i64 v6)), (7, some (.bool (PlanV.opB p o)))] ⟨2, [(0, some ⟨true, (PlanV.cs p), 0⟩), (1, some ⟨true, (OpV.cs o), 0⟩)]⟩ (fnK RwordChecks 0 Kf) :=
  L_regQE hGwordChecks (its := cwordChecks_n6i) (rwordChecks_3 p o v5 v6 (fun e H => SemL Try.prog w0 fp ρi 0 58 [cwordChecks_n8, (.seq cwordChecks_n9 .ret)] e H (fnK RwordChecks 0 Kf)) ⟨(plainR_ren (τ := whole) (by kernel_rfl)).2, ⟨⟨h.1, rfl, (keeps_refl _)⟩, ⟨(((PlanV.opCode p o) != v5) || (!((chgB o.okind) == (chgB o.okind)))), fun hc_qq => ⟨(plainR_ren (τ := whole) (by kernel_rfl)).2, ⟨⟨True.intro, rfl, (keeps_refl _)⟩, ⟨(plainR_ren (τ := whole) (by kernel_rfl)).2, ⟨⟨True.intro, rfl, (keeps_refl _)⟩, (qo1 hc_qq)⟩⟩⟩⟩, fun hc_qq => qo2 hc_qq, ⟨((((PlanV.opCode p o) != v5) || (!((chgB o.okind) == (chgB o.okind)))) || (!((PlanV.opB p o) == ((v5 == 0) && (o.okind != 6))))), fun hc_qq_1 => ⟨((v5 == 0) && (o.okind != 6)), fun hc_qq_2 => (qa1 hc_qq_2), fun hc_qq_2 => qa2 hc_qq_2, (qo1 hc_qq_1)⟩, fun hc_qq_1 => qo2 hc_qq_1, (pwordChecks_2 p o hK v6 v5 h.2)⟩⟩⟩⟩)
theorem rwordChecks_4 (p : PlanV) (o : OpV) (v5 : Int) (Z : Env → Heap → Prop) (h : ((OpV.Wf o)) ∧ Z [(2, some (.ptr ⟨0, 0, 0, 1⟩ 46)), (3, some (.ptr ⟨1, 0, 0, 1⟩ 5)), (5, some (.int .i64 v5)), (6, some (.int .i64 (PlanV.opLine p o))), (7, some (.bool (PlanV.opB p o)))] ⟨2, [(0, some ⟨true, (PlanV.cs p), 0⟩), (1, some ⟨true, (OpV.cs o), 0⟩)]⟩) : EvC GwordChecks cwordChecks_n5 [(2, some (.ptr ⟨0, 0, 0, 1⟩ 46)), (3, some (.ptr ⟨1, 0, 0, 1⟩ 5)), (5, some (.int .i64 v5))] ⟨2, [(0, some ⟨true, (PlanV.cs p), 0⟩), (1, some ⟨true, (OpV.cs o), 0⟩)]⟩ [2, 3, 5, 6, 7] [0, 1] Z := EvC.of (by kernel_rfl) h
def vwordChecks_4 (p : PlanV) (o : OpV) (v5 : Int) : Prop := ((OpV.Wf o)) ∧ (∀ v6 : Int, v6 = (PlanV.opLine p o) → vwordChecks_3 p o v5 v6)
theorem pwordChecks_4 (p : PlanV) (o : OpV) (hK : Kf (.bool true) ⟨0, []⟩) (v5 : Int) (h : vwordChecks_4 p o v5) : SemL Try.prog w0 fp ρi 0 58 [cwordChecks_n5, (.seq (.seq cwordChecks_n6 cwordChecks_n8) (.seq cwordChecks_n9 .ret))] [(2, some (.ptr ⟨0, 0, 0, 1⟩ 46)), (3, some (.ptr ⟨1, 0, 0, 1⟩ 5)), (5, some (.int .i64 v5))] ⟨2, [(0, some ⟨true, (PlanV.cs p), 0⟩), (1, some ⟨true, (OpV.cs o), 0⟩)]⟩ (fnK RwordChecks 0 Kf) :=
  L_regE hGwordChecks (rwordChecks_4 p o v5 (fun e H => SemL Try.prog w0 fp ρi 0 58 [(.seq (.seq cwordChecks_n6 cwordChecks_n8) (.seq cwordChecks_n9 .ret))] e H (fnK RwordChecks 0 Kf)) ⟨h.1, (L_seq (L_seq (pwordChecks_3 p o hK v5 (PlanV.opLine p o) (h.2 (PlanV.opLine p o) rfl))))⟩)
theorem rwordChecks_5 (p : PlanV) (o : OpV) (Z : Env → Heap → Prop) (h : ((OpV.Wf o)) ∧ Z [(2, some (.ptr ⟨0, 0, 0, 1⟩ 46)), (3, some (.ptr ⟨1, 0, 0, 1⟩ 5)), (5, some (.int .i64 (PlanV.opCode p o)))] ⟨2, [(0, some ⟨true, (PlanV.cs p), 0⟩), (1, some ⟨true, (OpV.cs o), 0⟩)]⟩) : EvC GwordChecks cwordChecks_n4 [(2, some (.ptr ⟨0, 0, 0, 1⟩ 46)), (3, some (.ptr ⟨1, 0, 0, 1⟩ 5))] ⟨2, [(0, some ⟨true, (PlanV.cs p), 0⟩), (1, some ⟨true, (OpV.cs o), 0⟩)]⟩ [2, 3, 5] [0, 1] Z := EvC.of (by kernel_rfl) h
def vwordChecks_5 (p : PlanV) (o : OpV) : Prop := ((OpV.Wf o)) ∧ (∀ v5 : Int, v5 = (PlanV.opCode p o) → vwordChecks_4 p o v5)
theorem pwordChecks_5 (p : PlanV) (o : OpV) (hK : Kf (.bool true) ⟨0, []⟩) (h : vwordChecks_5 p o) : SemL Try.prog w0 fp ρi 0 58 [cwordChecks_n4, (.seq cwordChecks_n5 (.seq (.seq cwordChecks_n6 cwordChecks_n8) (.seq cwordChecks_n9 .ret)))] [(2, some (.ptr ⟨0, 0, 0, 1⟩ 46)), (3, some (.ptr ⟨1, 0, 0, 1⟩ 5))] ⟨2, [(0, some ⟨true, (PlanV.cs p), 0⟩), (1, some ⟨true, (OpV.cs o), 0⟩)]⟩ (fnK RwordChecks 0 Kf) :=
  L_regE hGwordChecks (rwordChecks_5 p o (fun e H => SemL Try.prog w0 fp ρi 0 58 [(.seq cwordChecks_n5 (.seq (.seq cwordChecks_n6 cwordChecks_n8) (.seq cwordChecks_n9 .ret)))] e H (fnK RwordChecks 0 Kf)) ⟨h.1, (L_seq (pwordChecks_4 p o hK (PlanV.opCode p o) (h.2 (PlanV.opCode p o) rfl)))⟩)
def vwordChecks_6 (p : PlanV) (o : OpV) : Prop := vwordChecks_5 p o
theorem pwordChecks_6 (p : PlanV) (o : OpV) (hK : Kf (.bool true) ⟨0, []⟩) (h : vwordChecks_6 p o) : SemL Try.prog w0 fp ρi 0 58 [cwordChecks_n3, (.seq cwordChecks_n4 (.seq cwordChecks_n5 (.seq (.seq cwordChecks_n6 cwordChecks_n8) (.seq cwordChecks_n9 .ret))))] [(2, some (.ptr ⟨0, 0, 0, 1⟩ 46)), (3, some (.ptr ⟨1, 0, 0, 1⟩ 5)), (9, some (.bool false))] ⟨2, [(0, some ⟨true, (PlanV.cs p), 0⟩), (1, some ⟨true, (OpV.cs o), 0⟩)]⟩ (fnK RwordChecks 0 Kf) :=
  L_cond (q := false) (by kernel_rfl) (fun hq => Bool.noConfusion hq) (fun _ => (L_skip (L_pick (e' := [(2, some (.ptr ⟨0, 0, 0, 1⟩ 46)), (3, some (.ptr ⟨1, 0, 0, 1⟩ 5))]) (H' := ⟨2, [(0, some ⟨true, (PlanV.cs p), 0⟩), (1, some ⟨true, (OpV.cs o), 0⟩)]⟩) [2, 3] [0, 1] (by kernel_rfl) (by kernel_rfl) (L_seq (pwordChecks_5 p o hK h)))))
theorem rwordChecks_7 (p : PlanV) (o : OpV) (Z : Env → Heap → Prop) (h : (True) ∧ Z [(2, some (.ptr ⟨0, 0, 0, 1⟩ 46)), (3, some (.ptr ⟨1, 0, 0, 1⟩ 5)), (9, some (.bool false))] ⟨2, [(0, some ⟨true, (PlanV.cs p), 0⟩), (1, some ⟨true, (OpV.cs o), 0⟩)]⟩) : EvC GwordChecks cwordChecks_n1 [(2, some (.ptr ⟨0, 0, 0, 1⟩ 46)), (3, some (.ptr ⟨1, 0, 0, 1⟩ 5))] ⟨2, [(0, some ⟨true, (PlanV.cs p), 0⟩), (1, some ⟨true, (OpV.cs o), 0⟩)]⟩ [2, 3, 9] [0, 1] Z := EvC.of (by kernel_rfl) h
def vwordChecks_7 (p : PlanV) (o : OpV) : Prop := vwordChecks_6 p o
theorem pwordChecks_7 (p : PlanV) (o : OpV) (hK : Kf (.bool true) ⟨0, []⟩) (h : vwordChecks_7 p o) : SemL Try.prog w0 fp ρi 0 58 [cwordChecks_n1, cwordChecks_n3, (.seq cwordChecks_n4 (.seq cwordChecks_n5 (.seq (.seq cwordChecks_n6 cwordChecks_n8) (.seq cwordChecks_n9 .ret))))] [(2, some (.ptr ⟨0, 0, 0, 1⟩ 46)), (3, some (.ptr ⟨1, 0, 0, 1⟩ 5))] ⟨2, [(0, some ⟨true, (PlanV.cs p), 0⟩), (1, some ⟨true, (OpV.cs o), 0⟩)]⟩ (fnK RwordChecks 0 Kf) :=
  L_regE hGwordChecks (rwordChecks_7 p o (fun e H => SemL Try.prog w0 fp ρi 0 58 [cwordChecks_n3, (.seq cwordChecks_n4 (.seq cwordChecks_n5 (.seq (.seq cwordChecks_n6 cwordChecks_n8) (.seq cwordChecks_n9 .ret))))] e H (fnK RwordChecks 0 Kf)) ⟨True.intro, (pwordChecks_6 p o hK h)⟩)
theorem rwordChecks_8 (p : PlanV) (o : OpV) (Z : Env → Heap → Prop) (h : Z [(2, some (.ptr ⟨0, 0, 0, 1⟩ 46)), (3, some (.ptr ⟨1, 0, 0, 1⟩ 5))] ⟨2, [(0, some ⟨true, (PlanV.cs p), 0⟩), (1, some ⟨true, (OpV.cs o), 0⟩)]⟩) : EvC GwordChecks cwordChecks_n0 [(0, some (.agg (PlanV.cs p))), (1, some (.agg (OpV.cs o)))] ⟨0, []⟩ [2, 3] [0, 1] Z := EvC.of (by kernel_rfl) h
def vwordChecks_8 (p : PlanV) (o : OpV) : Prop := vwordChecks_7 p o
theorem pwordChecks_8 (p : PlanV) (o : OpV) (hK : Kf (.bool true) ⟨0, []⟩) (h : vwordChecks_8 p o) : SemL Try.prog w0 fp ρi 0 58 [cwordChecks_n0, (.seq (.seq cwordChecks_n1 cwordChecks_n3) (.seq cwordChecks_n4 (.seq cwordChecks_n5 (.seq (.seq cwordChecks_n6 cwordChecks_n8) (.seq cwordChecks_n9 .ret)))))] [(0, some (.agg (PlanV.cs p))), (1, some (.agg (OpV.cs o)))] ⟨0, []⟩ (fnK RwordChecks 0 Kf) :=
  L_regE hGwordChecks (rwordChecks_8 p o (fun e H => SemL Try.prog w0 fp ρi 0 58 [(.seq (.seq cwordChecks_n1 cwordChecks_n3) (.seq cwordChecks_n4 (.seq cwordChecks_n5 (.seq (.seq cwordChecks_n6 cwordChecks_n8) (.seq cwordChecks_n9 .ret)))))] e H (fnK RwordChecks 0 Kf)) (L_seq (L_seq (pwordChecks_7 p o hK h))))
def vcwordChecks (p : PlanV) (o : OpV) : Prop := vwordChecks_8 p o
theorem wwordChecks (p : PlanV) (o : OpV) (hK : Kf (.bool true) ⟨0, []⟩) (h : vcwordChecks p o) : SemL Try.prog w0 fp ρi 0 58 [cwordChecks] [(0, some (.agg (PlanV.cs p))), (1, some (.agg (OpV.cs o)))] ⟨0, []⟩ (fnK RwordChecks 0 Kf) :=
  (L_seq (pwordChecks_8 p o hK h))
end
theorem okwordChecks (p : PlanV) (o : OpV) (hpre : (PlanV.Wf p ∧ OpV.Wf o)) : vcwordChecks p o := by
  unfold vcwordChecks vwordChecks_8 vwordChecks_7 vwordChecks_6 vwordChecks_5 vwordChecks_4 vwordChecks_3 vwordChecks_2 vwordChecks_1 vwordChecks_0
  obtain ⟨-, hw⟩ := hpre
  refine ⟨hw, ?_⟩
  rintro _ rfl
  refine ⟨hw, ?_⟩
  rintro _ rfl
  have e : (p.opCode o == 0 && o.okind != 6) = p.opB o := rfl
  rw [e]
  refine ⟨hw, fun h => (by simp at h), fun _ => ?_⟩
  cases hb : p.opB o with
  | false =>
    unfold PlanV.opLine
    rw [hb]; rfl
  | true =>
    have hb2 := hb
    unfold PlanV.opB at hb2
    simp only [Bool.and_eq_true, beq_iff_eq, Bool.not_eq_true', beq_eq_false_iff_ne] at hb2
    have hat := PlanV.opB_at hb2.1 hb2.2
    have ht : p.tags = p.all * 32 := rfl
    have ha := _root_.Go.Sx.PlanV.all_le p
    have e2 : IntKind.i64.wrap (o.oat.tdiv 32) = o.oat / 32 := by rw [Int.tdiv_eq_ediv_of_nonneg hat.1, wi64]; omega
    unfold PlanV.opLine
    rw [hb, if_pos rfl, e2]; simp
theorem swordChecks : Sound Try.prog 28 (pureS PwordChecks) := by
  refine fn_soundA cwordChecks_fits ?_
  intro args H K h
  obtain ⟨pre, v, hP, hpre, rfl, hK⟩ := pureS_inv h
  unfold PwordChecks at hP
  split at hP
  · obtain ⟨hb, hP⟩ := bif_some hP
    simp only [Bool.and_eq_true] at hb
    obtain ⟨h0, h1⟩ := hb
    obtain rfl := Nat.eq_of_beq_eq_true h0
    obtain rfl := Nat.eq_of_beq_eq_true h1
    cases hP
    exact ⟨rfl, fun w0 fp ρi => wwordChecks (PlanV.mk _ _ _ _ _ _ _ _ _ _ _ _ _ _ _ _) (OpV.mk _ _ _ _ _) hK (okwordChecks (PlanV.mk _ _ _ _ _ _ _ _ _ _ _ _ _ _ _ _) (OpV.mk _ _ _ _ _) hpre)⟩
  · cases hP
end Go.Proofs.Ytlmcdbgcbmjilaa
