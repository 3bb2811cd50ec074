/- Walks, printed by vcg. -/
import Derived.Test.YtlmcdbgcbmjilaaSxBitsP
import Derived.Test.YtlmcdbgcbmjilaaSxOpX
import Derived.KernelRfl
set_option linter.unusedVariables false
set_option linter.unusedSimpArgs false
namespace Go.Proofs.Ytlmcdbgcbmjilaa
open Go.Sx
def PwSize : PSpec := fun args => match args with
  | [.int .i64 n] => some (True, .bool (sizeB n))
  | _ => none
def pcwSize : PCon := ⟨157, PwSize⟩
def cwSize_n0 : ACode := .reg (.op (some 2) (.mov (.cn (.bool false))) .nil)
def cwSize_n1 : ACode := .reg (.op (some 3) (.mov (.tm 0)) (.op (some 4) (.bin .eql (.tm 3) (.cn (.int .i64 1))) (.op (some 5) (.mov (.tm 4)) (.grpJ 5 false (.op (some 6) (.mov (.tm 0)) (.op (some 7) (.bin .eql (.tm 6) (.cn (.int .i64 2))) .nil)) 8 (.tm 7) (.cn (.bool true)) (.op (some 9) (.mov (.tm 8)) (.grpJ 9 false (.op (some 10) (.mov (.tm 0)) (.op (some 11) (.bin .eql (.tm 10) (.cn (.int .i64 4))) .nil)) 12 (.tm 11) (.cn (.bool true)) (.op (some 13) (.mov (.tm 12)) (.grpJ 13 false (.op (some 14) (.mov (.tm 0)) (.op (some 15) (.bin .eql (.tm 14) (.cn (.int .i64 8))) .nil)) 16 (.tm 15) (.cn (.bool true)) (.op (some 2) (.mov (.tm 16)) .nil)))))))))
def cwSize : ACode := (.seq cwSize_n0 (.seq cwSize_n1 .ret))
def RwSize : Res := .one (.tm 2)
theorem cwSize_fits : fnFits Try.prog 157 1 17 cwSize RwSize = true := by kernel_rfl
def GwSize : Calls' := withP [] []
theorem hGwSize : CallOk Try.prog GwSize := withP_ok trivial trivial
section
variable {w0 : World} {fp : Nat → Nat → Prop} {ρi : Rho} {Kf : SVal → Heap → Prop}
theorem rwSize_0 (n : Int) (Z : Env → Heap → Prop) (h : ∃ qq : Bool, ((n == 1) = false → (keeps ⟨0, []⟩ ⟨0, []⟩ []) ∧ (n == 2) = qq) ∧ ((n == 1) = true → true = qq) ∧ ∃ qq'1 : Bool, (qq = false → (keeps ⟨0, []⟩ ⟨0, []⟩ []) ∧ (n == 4) = qq'1) ∧ (qq = true → true = qq'1) ∧ ∃ qq'2 : Bool, (qq'1 = false → (keeps ⟨0, []⟩ ⟨0, []⟩ []) ∧ (n == 8) = qq'2) ∧ (qq'1 = true → true = qq'2) ∧ Z [(2, some (.bool qq'2))] ⟨0, []⟩) : EvC GwSize cwSize_n1 [(0, some (.int .i64 n))] ⟨0, []⟩ [2] [] Z := EvC.of (by kernel_rfl) h
theorem rtwSize_0 (n : Int) : RetC RwSize [(2, some (.bool ((((n == 1) || (n == 2)) || (n == 4)) || (n == 8))))] ⟨0, []⟩ (.bool ((((n == 1) || (n == 2)) || (n == 4)) || (n == 8))) := RetC.of (fun Z => by kernel_rfl)
def vwSize_0 (n : Int) : Prop := ((((n == 1) || (n == 2)) || (n == 4)) || (n == 8)) = (sizeB n)
theorem pwSize_0 (n : Int) (hK : Kf (.bool (sizeB n)) ⟨0, []⟩) (h : vwSize_0 n) : SemL Try.prog w0 fp ρi 0 17 [cwSize_n1, .ret] [(0, some (.int .i64 n))] ⟨0, []⟩ (fnK RwSize 0 Kf) :=
  L_regE hGwSize (rwSize_0 n (fun e H => SemL Try.prog w0 fp ρi 0 17 [.ret] e H (fnK RwSize 0 Kf)) ⟨((n == 1) || (n == 2)), fun hc_qq => ⟨(keeps_refl _), (qo1 hc_qq)⟩, fun hc_qq => qo2 hc_qq, ⟨(((n == 1) || (n == 2)) || (n == 4)), fun hc_qq_1 => ⟨(keeps_refl _), (qo1 hc_qq_1)⟩, fun hc_qq_1 => qo2 hc_qq_1, ⟨((((n == 1) || (n == 2)) || (n == 4)) || (n == 8)), fun hc_qq_2 => ⟨(keeps_refl _), (qo1 hc_qq_2)⟩, fun hc_qq_2 => qo2 hc_qq_2, (L_retE (R := RwSize) (m := 0) (Kf := Kf) (fun _ _ h => h) (rtwSize_0 n) (ret_plain rfl (by kernel_rfl) (cg1 (fun (z1 : Bool) => (.bool z1 : SVal)) h) hK))⟩⟩⟩)
theorem rwSize_1 (n : Int) (Z : Env → Heap → Prop) (h : Z [(0, some (.int .i64 n))] ⟨0, []⟩) : EvC GwSize cwSize_n0 [(0, some (.int .i64 n))] ⟨0, []⟩ [0] [] Z := EvC.of (by kernel_rfl) h
def vwSize_1 (n : Int) : Prop := vwSize_0 n
theorem pwSize_1 (n : Int) (hK : Kf (.bool (sizeB n)) ⟨0, []⟩) (h : vwSize_1 n) : SemL Try.prog w0 fp ρi 0 17 [cwSize_n0, (.seq cwSize_n1 .ret)] [(0, some (.int .i64 n))] ⟨0, []⟩ (fnK RwSize 0 Kf) :=
  L_regE hGwSize (rwSize_1 n (fun e H => SemL Try.prog w0 fp ρi 0 17 [(.seq cwSize_n1 .ret)] e H (fnK RwSize 0 Kf)) (L_seq (pwSize_0 n hK h)))
def vcwSize (n : Int) : Prop := vwSize_1 n
theorem wwSize (n : Int) (hK : Kf (.bool (sizeB n)) ⟨0, []⟩) (h : vcwSize n) : SemL Try.prog w0 fp ρi 0 17 [cwSize] [(0, some (.int .i64 n))] ⟨0, []⟩ (fnK RwSize 0 Kf) :=
  (L_seq (pwSize_1 n hK h))
end
theorem okwSize (n : Int) (hpre : True) : vcwSize n := by
  unfold vcwSize vwSize_1 vwSize_0
  rfl
theorem swSize : Sound Try.prog 157 (pureS PwSize) := by
  refine fn_soundA cwSize_fits ?_
  intro args H K h
  obtain ⟨pre, v, hP, hpre, rfl, hK⟩ := pureS_inv h
  unfold PwSize at hP
  split at hP
  · cases hP
    exact ⟨rfl, fun w0 fp ρi => wwSize _ hK (okwSize _ hpre)⟩
  · cases hP
def PwChanges : PSpec := fun args => match args with
  | [.agg [.one (.int .i64 o_0), .one (.int .i64 o_1), .one (.int .i64 o_2), .one (.int .u64 o_3), .one (.int .u64 o_4)]] => some (True, .bool (chgB o_0))
  | _ => none
def pcwChanges : PCon := ⟨63, PwChanges⟩
def cwChanges_n0 : ACode := .reg (.op (some 1) (.box (.tm 0)) (.op (some 2) (.mov (.cn (.bool false))) .nil))
def cwChanges_n1 : ACode := .reg (.op (some 3) (.fieldAddr (.tm 1) 0 1) (.op (some 4) (.load1 (.tm 3)) (.op (some 5) (.bin .eql (.tm 4) (.cn (.int .i64 2))) (.op (some 6) (.mov (.tm 5)) (.grpJ 6 false (.op (some 7) (.fieldAddr (.tm 1) 0 1) (.op (some 8) (.load1 (.tm 7)) (.op (some 9) (.bin .eql (.tm 8) (.cn (.int .i64 3))) .nil))) 10 (.tm 9) (.cn (.bool true)) (.op (some 11) (.mov (.tm 10)) (.grpJ 11 false (.op (some 12) (.fieldAddr (.tm 1) 0 1) (.op (some 13) (.load1 (.tm 12)) (.op (some 14) (.bin .eql (.tm 13) (.cn (.int .i64 4))) .nil))) 15 (.tm 14) (.cn (.bool true)) (.op (some 2) (.mov (.tm 15)) .nil))))))))
def cwChanges : ACode := (.seq cwChanges_n0 (.seq cwChanges_n1 .ret))
def RwChanges : Res := .one (.tm 2)
theorem cwChanges_fits : fnFits Try.prog 63 1 16 cwChanges RwChanges = true := by kernel_rfl
def GwChanges : Calls' := withP [] []
theorem hGwChanges : CallOk Try.prog GwChanges := withP_ok trivial trivial
section
variable {w0 : World} {fp : Nat → Nat → Prop} {ρi : Rho} {Kf : SVal → Heap → Prop}
theorem rwChanges_0 (o : OpV) (Z : Env → Heap → Prop) (h : ∃ qq : Bool, ((o.okind == 2) = false → (keeps ⟨1, [(0, some ⟨true, (OpV.cs o), 0⟩)]⟩ ⟨1, [(0, some ⟨true, (OpV.cs o), 0⟩)]⟩ [(0, some ⟨true, (OpV.cs o), 0⟩)]) ∧ (o.okind == 3) = qq) ∧ ((o.okind == 2) = true → true = qq) ∧ ∃ qq'1 : Bool, (qq = false → (keeps ⟨1, [(0, some ⟨true, (OpV.cs o), 0⟩)]⟩ ⟨1, [(0, some ⟨true, (OpV.cs o), 0⟩)]⟩ [(0, some ⟨true, (OpV.cs o), 0⟩)]) ∧ (o.okind == 4) = qq'1) ∧ (qq = true → true = qq'1) ∧ Z [(2, some (.bool qq'1))] ⟨1, []⟩) : EvC GwChanges cwChanges_n1 [(1, some (.ptr ⟨0, 0, 0, 1⟩ 5))] ⟨1, [(0, some ⟨true, (OpV.cs o), 0⟩)]⟩ [2] [] Z := EvC.of (by kernel_rfl) h
theorem rtwChanges_0 (o : OpV) : RetC RwChanges [(2, some (.bool (((o.okind == 2) || (o.okind == 3)) || (o.okind == 4))))] ⟨1, []⟩ (.bool (((o.okind == 2) || (o.okind == 3)) || (o.okind == 4))) := RetC.of (fun Z => by kernel_rfl)
def vwChanges_0 (o : OpV) : Prop := (((o.okind == 2) || (o.okind == 3)) || (o.okind == 4)) = (chgB o.okind)
theorem pwChanges_0 (o : OpV) (hK : Kf (.bool (chgB o.okind)) ⟨0, []⟩) (h : vwChanges_0 o) : SemL Try.prog w0 fp ρi 0 16 [cwChanges_n1, .ret] [(1, some (.ptr ⟨0, 0, 0, 1⟩ 5))] ⟨1, [(0, some ⟨true, (OpV.cs o), 0⟩)]⟩ (fnK RwChanges 0 Kf) :=
  L_regE hGwChanges (rwChanges_0 o (fun e H => SemL Try.prog w0 fp ρi 0 16 [.ret] e H (fnK RwChanges 0 Kf)) ⟨((o.okind == 2) || (o.okind == 3)), fun hc_qq => ⟨(keeps_refl _), (qo1 hc_qq)⟩, fun hc_qq => qo2 hc_qq, ⟨(((o.okind == 2) || (o.okind == 3)) || (o.okind == 4)), fun hc_qq_1 => ⟨(keeps_refl _), (qo1 hc_qq_1)⟩, fun hc_qq_1 => qo2 hc_qq_1, (L_retE (R := RwChanges) (m := 0) (Kf := Kf) (fun _ _ h => h) (rtwChanges_0 o) (ret_plain rfl (by kernel_rfl) (cg1 (fun (z1 : Bool) => (.bool z1 : SVal)) h) hK))⟩⟩)
theorem rwChanges_1 (o : OpV) (Z : Env → Heap → Prop) (h : Z [(1, some (.ptr ⟨0, 0, 0, 1⟩ 5))] ⟨1, [(0, some ⟨true, (OpV.cs o), 0⟩)]⟩) : EvC GwChanges cwChanges_n0 [(0, some (.agg (OpV.cs o)))] ⟨0, []⟩ [1] [0] Z := EvC.of (by kernel_rfl) h
def vwChanges_1 (o : OpV) : Prop := vwChanges_0 o
theorem pwChanges_1 (o : OpV) (hK : Kf (.bool (chgB o.okind)) ⟨0, []⟩) (h : vwChanges_1 o) : SemL Try.prog w0 fp ρi 0 16 [cwChanges_n0, (.seq cwChanges_n1 .ret)] [(0, some (.agg (OpV.cs o)))] ⟨0, []⟩ (fnK RwChanges 0 Kf) :=
  L_regE hGwChanges (rwChanges_1 o (fun e H => SemL Try.prog w0 fp ρi 0 16 [(.seq cwChanges_n1 .ret)] e H (fnK RwChanges 0 Kf)) (L_seq (pwChanges_0 o hK h)))
def vcwChanges (o : OpV) : Prop := vwChanges_1 o
theorem wwChanges (o : OpV) (hK : Kf (.bool (chgB o.okind)) ⟨0, []⟩) (h : vcwChanges o) : SemL Try.prog w0 fp ρi 0 16 [cwChanges] [(0, some (.agg (OpV.cs o)))] ⟨0, []⟩ (fnK RwChanges 0 Kf) :=
  (L_seq (pwChanges_1 o hK h))
end
theorem okwChanges (o : OpV) (hpre : True) : vcwChanges o := by
  unfold vcwChanges vwChanges_1 vwChanges_0
  unfold chgB
  rw [Bool.eq_iff_iff]
  simp only [decide_eq_true_eq, Bool.or_eq_true, beq_iff_eq]
  omega
theorem swChanges : Sound Try.prog 63 (pureS PwChanges) := by
  refine fn_soundA cwChanges_fits ?_
  intro args H K h
  obtain ⟨pre, v, hP, hpre, rfl, hK⟩ := pureS_inv h
  unfold PwChanges at hP
  split at hP
  · cases hP
    exact ⟨rfl, fun w0 fp ρi => wwChanges (OpV.mk _ _ _ _ _) hK (okwChanges (OpV.mk _ _ _ _ _) hpre)⟩
  · cases hP
def PqChanges : PSpec := fun args => match args with
  | [.agg [.one (.int .i64 o_0), .one (.int .i64 o_1), .one (.int .i64 o_2), .one (.int .u64 o_3), .one (.int .u64 o_4)]] => some (True, .bool (chgB o_0))
  | _ => none
def pcqChanges : PCon := ⟨110, PqChanges⟩
def cqChanges_n0 : ACode := .reg (.op (some 1) (.box (.tm 0)) (.op (some 2) (.mov (.cn (.bool false))) .nil))
def cqChanges_n1 : ACode := .reg (.op (some 3) (.fieldAddr (.tm 1) 0 1) (.op (some 4) (.load1 (.tm 3)) (.op (some 5) (.bin .geq (.tm 4) (.cn (.int .i64 2))) (.op (some 6) (.mov (.tm 5)) (.grpJ 6 true (.op (some 7) (.fieldAddr (.tm 1) 0 1) (.op (some 8) (.load1 (.tm 7)) (.op (some 9) (.bin .leq (.tm 8) (.cn (.int .i64 4))) .nil))) 10 (.tm 9) (.cn (.bool false)) (.op (some 2) (.mov (.tm 10)) .nil))))))
def cqChanges : ACode := (.seq cqChanges_n0 (.seq cqChanges_n1 .ret))
def RqChanges : Res := .one (.tm 2)
theorem cqChanges_fits : fnFits Try.prog 110 1 11 cqChanges RqChanges = true := by kernel_rfl
def GqChanges : Calls' := withP [] []
theorem hGqChanges : CallOk Try.prog GqChanges := withP_ok trivial trivial
section
variable {w0 : World} {fp : Nat → Nat → Prop} {ρi : Rho} {Kf : SVal → Heap → Prop}
theorem rqChanges_0 (o : OpV) (Z : Env → Heap → Prop) (h : ∃ qq : Bool, ((decide (2 ≤ o.okind)) = true → (keeps ⟨1, [(0, some ⟨true, (OpV.cs o), 0⟩)]⟩ ⟨1, [(0, some ⟨true, (OpV.cs o), 0⟩)]⟩ [(0, some ⟨true, (OpV.cs o), 0⟩)]) ∧ (decide (o.okind ≤ 4)) = qq) ∧ ((decide (2 ≤ o.okind)) = false → false = qq) ∧ Z [(2, some (.bool qq))] ⟨1, []⟩) : EvC GqChanges cqChanges_n1 [(1, some (.ptr ⟨0, 0, 0, 1⟩ 5))] ⟨1, [(0, some ⟨true, (OpV.cs o), 0⟩)]⟩ [2] [] Z := EvC.of (by kernel_rfl) h
theorem rtqChanges_0 (o : OpV) : RetC RqChanges [(2, some (.bool ((decide (2 ≤ o.okind)) && (decide (o.okind ≤ 4)))))] ⟨1, []⟩ (.bool ((decide (2 ≤ o.okind)) && (decide (o.okind ≤ 4)))) := RetC.of (fun Z => by kernel_rfl)
def vqChanges_0 (o : OpV) : Prop := ((decide (2 ≤ o.okind)) && (decide (o.okind ≤ 4))) = (chgB o.okind)
theorem pqChanges_0 (o : OpV) (hK : Kf (.bool (chgB o.okind)) ⟨0, []⟩) (h : vqChanges_0 o) : SemL Try.prog w0 fp ρi 0 11 [cqChanges_n1, .ret] [(1, some (.ptr ⟨0, 0, 0, 1⟩ 5))] ⟨1, [(0, some ⟨true, (OpV.cs o), 0⟩)]⟩ (fnK RqChanges 0 Kf) :=
  L_regE hGqChanges (rqChanges_0 o (fun e H => SemL Try.prog w0 fp ρi 0 11 [.ret] e H (fnK RqChanges 0 Kf)) ⟨((decide (2 ≤ o.okind)) && (decide (o.okind ≤ 4))), fun hc_qq => ⟨(keeps_refl _), (qa1 hc_qq)⟩, fun hc_qq => qa2 hc_qq, (L_retE (R := RqChanges) (m := 0) (Kf := Kf) (fun _ _ h => h) (rtqChanges_0 o) (ret_plain rfl (by kernel_rfl) (cg1 (fun (z1 : Bool) => (.bool z1 : SVal)) h) hK))⟩)
theorem rqChanges_1 (o : OpV) (Z : Env → Heap → Prop) (h : Z [(1, some (.ptr ⟨0, 0, 0, 1⟩ 5))] ⟨1, [(0, some ⟨true, (OpV.cs o), 0⟩)]⟩) : EvC GqChanges cqChanges_n0 [(0, some (.agg (OpV.cs o)))] ⟨0, []⟩ [1] [0] Z := EvC.of (by kernel_rfl) h
def vqChanges_1 (o : OpV) : Prop := vqChanges_0 o
theorem pqChanges_1 (o : OpV) (hK : Kf (.bool (chgB o.okind)) ⟨0, []⟩) (h : vqChanges_1 o) : SemL Try.prog w0 fp ρi 0 11 [cqChanges_n0, (.seq cqChanges_n1 .ret)] [(0, some (.agg (OpV.cs o)))] ⟨0, []⟩ (fnK RqChanges 0 Kf) :=
  L_regE hGqChanges (rqChanges_1 o (fun e H => SemL Try.prog w0 fp ρi 0 11 [(.seq cqChanges_n1 .ret)] e H (fnK RqChanges 0 Kf)) (L_seq (pqChanges_0 o hK h)))
def vcqChanges (o : OpV) : Prop := vqChanges_1 o
theorem wqChanges (o : OpV) (hK : Kf (.bool (chgB o.okind)) ⟨0, []⟩) (h : vcqChanges o) : SemL Try.prog w0 fp ρi 0 11 [cqChanges] [(0, some (.agg (OpV.cs o)))] ⟨0, []⟩ (fnK RqChanges 0 Kf) :=
  (L_seq (pqChanges_1 o hK h))
end
theorem okqChanges (o : OpV) (hpre : True) : vcqChanges o := by
  unfold vcqChanges vqChanges_1 vqChanges_0
  unfold chgB
  rw [Bool.decide_and]
theorem sqChanges : Sound Try.prog 110 (pureS PqChanges) := by
  refine fn_soundA cqChanges_fits ?_
  intro args H K h
  obtain ⟨pre, v, hP, hpre, rfl, hK⟩ := pureS_inv h
  unfold PqChanges at hP
  split at hP
  · cases hP
    exact ⟨rfl, fun w0 fp ρi => wqChanges (OpV.mk _ _ _ _ _) hK (okqChanges (OpV.mk _ _ _ _ _) hpre)⟩
  · cases hP
def PwMask : PSpec := fun args => match args with
  | [.int .i64 n] => some (True, .int .u64 (maskI n))
  | _ => none
def pcwMask : PCon := ⟨62, PwMask⟩
def cwMask_n0 : ACode := .reg (.op (some 2) (.mov (.cn (.int .u64 0))) .nil)
def cwMask_n1 : ACode := .reg (.op (some 4) (.mov (.tm 0)) (.op (some 5) (.bin .lss (.tm 4) (.cn (.int .i64 1))) (.op (some 3) (.mov (.tm 5)) .nil)))
def cwMask_n2 : ACode := .reg (.op (some 2) (.mov (.cn (.int .u64 0))) .nil)
def cwMask_n3 : ACode := .reg (.op (some 7) (.mov (.tm 0)) (.op (some 8) (.bin .geq (.tm 7) (.cn (.int .i64 8))) (.op (some 6) (.mov (.tm 8)) .nil)))
def cwMask_n4 : ACode := .reg (.op (some 2) (.mov (.cn (.int .u64 18446744073709551615))) .nil)
def cwMask_n5 : ACode := .cond (.tm 6) (.seq cwMask_n4 .ret) .skip
def cwMask_n6 : ACode := .cond (.tm 3) (.seq cwMask_n2 .ret) (.seq cwMask_n3 cwMask_n5)
def cwMask_n7 : ACode := .block 0 (.seq cwMask_n1 cwMask_n6)
def cwMask_n8 : ACode := .reg (.op (some 9) (.mov (.tm 0)) (.op (some 10) (.bin .mul (.cn (.int .i64 8)) (.tm 9)) (.op (some 11) (.bin .shl (.cn (.int .u64 1)) (.tm 10)) (.op (some 12) (.bin .sub (.tm 11) (.cn (.int .u64 1))) (.op (some 2) (.mov (.tm 12)) .nil)))))
def cwMask : ACode := (.seq cwMask_n0 (.seq cwMask_n7 (.seq cwMask_n8 .ret)))
def RwMask : Res := .one (.tm 2)
theorem cwMask_fits : fnFits Try.prog 62 1 13 cwMask RwMask = true := by kernel_rfl
def GwMask : Calls' := withP [] []
theorem hGwMask : CallOk Try.prog GwMask := withP_ok trivial trivial
section
variable {w0 : World} {fp : Nat → Nat → Prop} {ρi : Rho} {Kf : SVal → Heap → Prop}
def kkwMask_0 (w0 : World) (fp : Nat → Nat → Prop) (ρi : Rho) (Kf : SVal → Heap → Prop) (n : Int) : Cont := blockK 0 (fun e H => SemL Try.prog w0 fp ρi 0 13 [(.seq cwMask_n8 .ret)] e H (fnK RwMask 0 Kf)) (fnK RwMask 0 Kf)
theorem rwMask_0 (n : Int) (Z : Env → Heap → Prop) (h : Z [(2, some (.int .u64 0))] ⟨0, []⟩) : EvC GwMask cwMask_n2 [] ⟨0, []⟩ [2] [] Z := EvC.of (by kernel_rfl) h
theorem rtwMask_0 (n : Int) : RetC RwMask [(2, some (.int .u64 0))] ⟨0, []⟩ (.int .u64 0) := RetC.of (fun Z => by kernel_rfl)
def vwMask_0 (n : Int) : Prop := 0 = (maskI n)
theorem pwMask_0 (n : Int) (hK : Kf (.int .u64 (maskI n)) ⟨0, []⟩) (h : vwMask_0 n) : SemL Try.prog w0 fp ρi 0 13 [cwMask_n2, .ret] [] ⟨0, []⟩ (kkwMask_0 w0 fp ρi Kf n) :=
  L_regE hGwMask (rwMask_0 n (fun e H => SemL Try.prog w0 fp ρi 0 13 [.ret] e H (kkwMask_0 w0 fp ρi Kf n)) (L_retE (R := RwMask) (m := 0) (Kf := Kf) (fun _ _ h => h) (rtwMask_0 n) (ret_plain rfl (by kernel_rfl) (cg1 (fun (z1 : Int) => (.int .u64 z1 : SVal)) h) hK)))
theorem rwMask_1 (n : Int) (Z : Env → Heap → Prop) (h : Z [(2, some (.int .u64 18446744073709551615))] ⟨0, []⟩) : EvC GwMask cwMask_n4 [] ⟨0, []⟩ [2] [] Z := EvC.of (by kernel_rfl) h
theorem rtwMask_1 (n : Int) : RetC RwMask [(2, some (.int .u64 18446744073709551615))] ⟨0, []⟩ (.int .u64 18446744073709551615) := RetC.of (fun Z => by kernel_rfl)
def vwMask_1 (n : Int) : Prop := 18446744073709551615 = (maskI n)
theorem pwMask_1 (n : Int) (hK : Kf (.int .u64 (maskI n)) ⟨0, []⟩) (h : vwMask_1 n) : SemL Try.prog w0 fp ρi 0 13 [cwMask_n4, .ret] [] ⟨0, []⟩ (kkwMask_0 w0 fp ρi Kf n) :=
  L_regE hGwMask (rwMask_1 n (fun e H => SemL Try.prog w0 fp ρi 0 13 [.ret] e H (kkwMask_0 w0 fp ρi Kf n)) (L_retE (R := RwMask) (m := 0) (Kf := Kf) (fun _ _ h => h) (rtwMask_1 n) (ret_plain rfl (by kernel_rfl) (cg1 (fun (z1 : Int) => (.int .u64 z1 : SVal)) h) hK)))
theorem rwMask_2 (n : Int) (Z : Env → Heap → Prop) (h : ((0 ≤ (IntKind.i64.wrap (8 * n)))) ∧ Z [(2, some (.int .u64 (IntKind.u64.wrap ((ishl .u64 1 (IntKind.i64.wrap (8 * n))) - 1))))] ⟨0, []⟩) : EvC GwMask cwMask_n8 [(0, some (.int .i64 n))] ⟨0, []⟩ [2] [] Z := EvC.of (by kernel_rfl) h
theorem rtwMask_2 (n : Int) : RetC RwMask [(2, some (.int .u64 (IntKind.u64.wrap ((ishl .u64 1 (IntKind.i64.wrap (8 * n))) - 1))))] ⟨0, []⟩ (.int .u64 (IntKind.u64.wrap ((ishl .u64 1 (IntKind.i64.wrap (8 * n))) - 1))) := RetC.of (fun Z => by kernel_rfl)
def vwMask_2 (n : Int) : Prop := ((0 ≤ (IntKind.i64.wrap (8 * n)))) ∧ ((IntKind.u64.wrap ((ishl .u64 1 (IntKind.i64.wrap (8 * n))) - 1)) = (maskI n))
theorem pwMask_2 (n : Int) (hK : Kf (.int .u64 (maskI n)) ⟨0, []⟩) (h : vwMask_2 n) : SemL Try.prog w0 fp ρi 0 13 [cwMask_n8, .ret] [(0, some (.int .i64 n))] ⟨0, []⟩ (fnK RwMask 0 Kf) :=
  L_regE hGwMask (rwMask_2 n (fun e H => SemL Try.prog w0 fp ρi 0 13 [.ret] e H (fnK RwMask 0 Kf)) ⟨h.1, (L_retE (R := RwMask) (m := 0) (Kf := Kf) (fun _ _ h => h) (rtwMask_2 n) (ret_plain rfl (by kernel_rfl) (cg1 (fun (z1 : Int) => (.int .u64 z1 : SVal)) h.2) hK))⟩)
def vwMask_3 (n : Int) : Prop := ((decide (8 ≤ n)) = true → (vwMask_1 n)) ∧ ((decide (8 ≤ n)) = false → (vwMask_2 n))
theorem pwMask_3 (n : Int) (hK : Kf (.int .u64 (maskI n)) ⟨0, []⟩) (h : vwMask_3 n) : SemL Try.prog w0 fp ρi 0 13 [cwMask_n5] [(0, some (.int .i64 n)), (6, some (.bool (decide (8 ≤ n))))] ⟨0, []⟩ (kkwMask_0 w0 fp ρi Kf n) :=
  L_cond (q := (decide (8 ≤ n))) (by kernel_rfl) (fun hq => (L_seq (L_pick (e' := []) (H' := ⟨0, []⟩) [] [] (by kernel_rfl) (by kernel_rfl) (pwMask_1 n hK (h.1 hq))))) (fun hq => (L_skip (L_nil (L_pick (e' := [(0, some (.int .i64 n))]) (H' := ⟨0, []⟩) [0] [] (by kernel_rfl) (by kernel_rfl) (L_seq (pwMask_2 n hK (h.2 hq)))))))
theorem rwMask_4 (n : Int) (Z : Env → Heap → Prop) (h : Z [(0, some (.int .i64 n)), (6, some (.bool (decide (8 ≤ n))))] ⟨0, []⟩) : EvC GwMask cwMask_n3 [(0, some (.int .i64 n))] ⟨0, []⟩ [0, 6] [] Z := EvC.of (by kernel_rfl) h
def vwMask_4 (n : Int) : Prop := vwMask_3 n
theorem pwMask_4 (n : Int) (hK : Kf (.int .u64 (maskI n)) ⟨0, []⟩) (h : vwMask_4 n) : SemL Try.prog w0 fp ρi 0 13 [cwMask_n3, cwMask_n5] [(0, some (.int .i64 n))] ⟨0, []⟩ (kkwMask_0 w0 fp ρi Kf n) :=
  L_regE hGwMask (rwMask_4 n (fun e H => SemL Try.prog w0 fp ρi 0 13 [cwMask_n5] e H (kkwMask_0 w0 fp ρi Kf n)) (pwMask_3 n hK h))
def vwMask_5 (n : Int) : Prop := ((decide (n < 1)) = true → (vwMask_0 n)) ∧ ((decide (n < 1)) = false → (vwMask_4 n))
theorem pwMask_5 (n : Int) (hK : Kf (.int .u64 (maskI n)) ⟨0, []⟩) (h : vwMask_5 n) : SemL Try.prog w0 fp ρi 0 13 [cwMask_n6] [(0, some (.int .i64 n)), (3, some (.bool (decide (n < 1))))] ⟨0, []⟩ (kkwMask_0 w0 fp ρi Kf n) :=
  L_cond (q := (decide (n < 1))) (by kernel_rfl) (fun hq => (L_seq (L_pick (e' := []) (H' := ⟨0, []⟩) [] [] (by kernel_rfl) (by kernel_rfl) (pwMask_0 n hK (h.1 hq))))) (fun hq => (L_seq (L_pick (e' := [(0, some (.int .i64 n))]) (H' := ⟨0, []⟩) [0] [] (by kernel_rfl) (by kernel_rfl) (pwMask_4 n hK (h.2 hq)))))
theorem rwMask_6 (n : Int) (Z : Env → Heap → Prop) (h : Z [(0, some (.int .i64 n)), (3, some (.bool (decide (n < 1))))] ⟨0, []⟩) : EvC GwMask cwMask_n1 [(0, some (.int .i64 n))] ⟨0, []⟩ [0, 3] [] Z := EvC.of (by kernel_rfl) h
def vwMask_6 (n : Int) : Prop := vwMask_5 n
theorem pwMask_6 (n : Int) (hK : Kf (.int .u64 (maskI n)) ⟨0, []⟩) (h : vwMask_6 n) : SemL Try.prog w0 fp ρi 0 13 [cwMask_n1, cwMask_n6] [(0, some (.int .i64 n))] ⟨0, []⟩ (kkwMask_0 w0 fp ρi Kf n) :=
  L_regE hGwMask (rwMask_6 n (fun e H => SemL Try.prog w0 fp ρi 0 13 [cwMask_n6] e H (kkwMask_0 w0 fp ρi Kf n)) (pwMask_5 n hK h))
def vwMask_7 (n : Int) : Prop := vwMask_6 n
theorem pwMask_7 (n : Int) (hK : Kf (.int .u64 (maskI n)) ⟨0, []⟩) (h : vwMask_7 n) : SemL Try.prog w0 fp ρi 0 13 [cwMask_n7, (.seq cwMask_n8 .ret)] [(0, some (.int .i64 n))] ⟨0, []⟩ (fnK RwMask 0 Kf) :=
  L_block (L_seq (pwMask_6 n hK h))
theorem rwMask_8 (n : Int) (Z : Env → Heap → Prop) (h : Z [(0, some (.int .i64 n))] ⟨0, []⟩) : EvC GwMask cwMask_n0 [(0, some (.int .i64 n))] ⟨0, []⟩ [0] [] Z := EvC.of (by kernel_rfl) h
def vwMask_8 (n : Int) : Prop := vwMask_7 n
theorem pwMask_8 (n : Int) (hK : Kf (.int .u64 (maskI n)) ⟨0, []⟩) (h : vwMask_8 n) : SemL Try.prog w0 fp ρi 0 13 [cwMask_n0, (.seq cwMask_n7 (.seq cwMask_n8 .ret))] [(0, some (.int .i64 n))] ⟨0, []⟩ (fnK RwMask 0 Kf) :=
  L_regE hGwMask (rwMask_8 n (fun e H => SemL Try.prog w0 fp ρi 0 13 [(.seq cwMask_n7 (.seq cwMask_n8 .ret))] e H (fnK RwMask 0 Kf)) (L_seq (pwMask_7 n hK h)))
def vcwMask (n : Int) : Prop := vwMask_8 n
theorem wwMask (n : Int) (hK : Kf (.int .u64 (maskI n)) ⟨0, []⟩) (h : vcwMask n) : SemL Try.prog w0 fp ρi 0 13 [cwMask] [(0, some (.int .i64 n))] ⟨0, []⟩ (fnK RwMask 0 Kf) :=
  (L_seq (pwMask_8 n hK h))
end
theorem okwMask (n : Int) (hpre : True) : vcwMask n := by
  unfold vcwMask vwMask_8 vwMask_7 vwMask_6 vwMask_5 vwMask_4 vwMask_3 vwMask_2 vwMask_1 vwMask_0
  simp only [decide_eq_true_eq, decide_eq_false_iff_not]
  refine ⟨fun h => (by unfold maskI; rw [if_pos h]), fun h => ⟨fun h2 => (by unfold maskI; rw [if_neg h, if_pos h2]), fun h2 => ?_⟩⟩
  obtain ⟨k, rfl⟩ := Int.eq_ofNat_of_zero_le (show 0 ≤ n by omega)
  have e1 : IntKind.i64.wrap (8 * (k : Int)) = ((8 * k : Nat) : Int) := wrap_i64 (by omega) (by omega)
  have hp : (2 : Int) ^ (8 * k) ≤ 2 ^ 56 := ipow_le 2 rfl (by omega) (by omega)
  have hp0 : (0 : Int) < 2 ^ (8 * k) := Int.pow_pos (by omega)
  have e2 : ishl .u64 1 ((8 * k : Nat) : Int) = 2 ^ (8 * k) := by
    rw [ishl_u64 (by simp only [Int.toNat_natCast]; omega), Int.toNat_natCast, Int.one_mul]; omega
  have hpe : (2 : Int) ^ (8 * k) = 256 ^ k := by rw [Int.pow_mul]; rfl
  rw [e1, e2, wrap_u64]
  unfold maskI
  rw [if_neg h, if_neg h2, Int.toNat_natCast, ← hpe]
  omega
theorem swMask : Sound Try.prog 62 (pureS PwMask) := by
  refine fn_soundA cwMask_fits ?_
  intro args H K h
  obtain ⟨pre, v, hP, hpre, rfl, hK⟩ := pureS_inv h
  unfold PwMask at hP
  split at hP
  · cases hP
    exact ⟨rfl, fun w0 fp ρi => wwMask _ hK (okwMask _ hpre)⟩
  · cases hP
def PwDo : PSpec := fun args => match args with
  | [.agg [.one (.int .i64 o_0), .one (.int .i64 o_1), .one (.int .i64 o_2), .one (.int .u64 o_3), .one (.int .u64 o_4)], .agg [.ints .u8 x_n x]] => bif Nat.beq x_n 32 then some ((OpV.Wf (OpV.mk o_0 o_1 o_2 o_3 o_4) ∧ LineOk x), .tuple [.agg [.ints .u8 32 (OpV.next (OpV.mk o_0 o_1 o_2 o_3 o_4) x)], .int .u64 (OpV.result (OpV.mk o_0 o_1 o_2 o_3 o_4) x)]) else none
  | _ => none
def pcwDo : PCon := ⟨60, PwDo⟩
def cwDo_n0 : ACode := .reg (.op (some 2) (.box (.tm 0)) (.op (some 3) (.box (.tm 1)) (.op (some 4) (.alloc [.ints .u8 32 (List.replicate 32 0)]) (.op (some 5) (.mov (.cn (.int .u64 0))) .nil))))
def cwDo_n1 : ACode := .reg (.op (some 10) (.fieldAddr (.tm 2) 2 1) (.op (some 11) (.load1 (.tm 10)) (.op (some 12) (.call 157 [(.tm 11)]) (.op (some 13) (.not (.tm 12)) (.op (some 14) (.mov (.tm 13)) (.grpJ 14 false (.op (some 15) (.loadA 5 (.tm 2)) (.op (some 16) (.call 63 [(.tm 15)]) (.op (some 17) (.not (.tm 16)) (.op (some 18) (.mov (.tm 17)) (.grpJ 18 true (.op (some 19) (.fieldAddr (.tm 2) 0 1) (.op (some 20) (.load1 (.tm 19)) (.op (some 21) (.bin .neq (.tm 20) (.cn (.int .i64 1))) .nil))) 22 (.tm 21) (.cn (.bool false)) .nil))))) 23 (.tm 22) (.cn (.bool true)) .nil))))))
def cwDo_n2 : ACode := .reg (.op (some 24) (.loadA 32 (.tm 3)) (.op none (.storeA 32 (.tm 4) (.tm 24)) (.op (some 5) (.mov (.cn (.int .u64 0))) .nil)))
def cwDo_n3 : ACode := .cond (.tm 23) (.seq cwDo_n2 .ret) .skip
def cwDo_n4 : ACode := .reg (.op (some 25) (.fieldAddr (.tm 2) 1 1) (.op (some 26) (.load1 (.tm 25)) (.op (some 27) (.bin .and (.tm 26) (.cn (.int .i64 31))) (.op (some 28) (.fieldAddr (.tm 2) 2 1) (.op (some 29) (.load1 (.tm 28)) (.op (some 30) (.bin .sub (.cn (.int .i64 32)) (.tm 29)) (.op (some 31) (.min2 (.tm 27) (.tm 30)) (.op (some 6) (.mov (.tm 31)) .nil))))))))
def cwDo_n5 : ACode := .reg (.op (some 32) (.mov (.tm 6)) (.op (some 33) (.mov (.tm 6)) (.op (some 34) (.fieldAddr (.tm 2) 2 1) (.op (some 35) (.load1 (.tm 34)) (.op (some 36) (.bin .add (.tm 33) (.tm 35)) (.op (some 37) (.sliceP 32 (.tm 3) (some (.tm 32)) (some (.tm 36)) none) (.op (some 7) (.mov (.tm 37)) .nil)))))))
def cwDo_n6 : ACode := .reg (.op (some 38) (.mov (.tm 7)) (.op (some 39) (.call 44 [(.tm 38)]) (.op (some 8) (.mov (.tm 39)) .nil)))
def cwDo_n7 : ACode := .reg (.op (some 40) (.fieldAddr (.tm 2) 3 1) (.op (some 41) (.load1 (.tm 40)) (.op (some 9) (.mov (.tm 41)) .nil)))
def cwDo_n8 : ACode := .reg (.op (some 42) (.fieldAddr (.tm 2) 0 1) (.op (some 43) (.load1 (.tm 42)) .nil))
def cwDo_n9 : ACode := .reg (.op (some 45) (.bin .eql (.tm 43) (.cn (.int .i64 1))) (.op (some 44) (.mov (.tm 45)) .nil))
def cwDo_n10 : ACode := .reg (.op (some 46) (.loadA 32 (.tm 3)) (.op (some 47) (.mov (.tm 8)) (.op none (.storeA 32 (.tm 4) (.tm 46)) (.op (some 5) (.mov (.tm 47)) .nil))))
def cwDo_n11 : ACode := .reg (.op (some 49) (.bin .eql (.tm 43) (.cn (.int .i64 3))) (.op (some 48) (.mov (.tm 49)) .nil))
def cwDo_n12i : Items := .op (some 50) (.mov (.tm 8)) (.op (some 51) (.fieldAddr (.tm 2) 4 1) (.op (some 52) (.load1 (.tm 51)) (.op (some 53) (.fieldAddr (.tm 2) 2 1) (.op (some 54) (.load1 (.tm 53)) (.op (some 55) (.call 62 [(.tm 54)]) (.op (some 56) (.bin .and (.tm 52) (.tm 55)) (.op (some 57) (.bin .neq (.tm 50) (.tm 56)) .nil)))))))
def cwDo_n12 : ACode := .regQ cwDo_n12i
def cwDo_n13 : ACode := .reg (.op (some 58) (.loadA 32 (.tm 3)) (.op (some 59) (.mov (.tm 8)) (.op none (.storeA 32 (.tm 4) (.tm 58)) (.op (some 5) (.mov (.tm 59)) .nil))))
def cwDo_n14 : ACode := .cond (.tm 57) (.seq cwDo_n13 .ret) .skip
def cwDo_n15 : ACode := .reg (.op (some 61) (.bin .eql (.tm 43) (.cn (.int .i64 4))) (.op (some 60) (.mov (.tm 61)) .nil))
def cwDo_n16 : ACode := .reg (.op (some 62) (.mov (.tm 9)) (.op (some 63) (.mov (.tm 8)) (.op (some 64) (.bin .add (.tm 62) (.tm 63)) (.op (some 9) (.mov (.tm 64)) .nil))))
def cwDo_n17 : ACode := .cond (.tm 60) cwDo_n16 .skip
def cwDo_n18 : ACode := .cond (.tm 48) (.seq cwDo_n12 cwDo_n14) (.seq cwDo_n15 cwDo_n17)
def cwDo_n19 : ACode := .cond (.tm 44) (.seq cwDo_n10 .ret) (.seq cwDo_n11 cwDo_n18)
def cwDo_n20 : ACode := .block 0 (.seq cwDo_n9 cwDo_n19)
def cwDo_n21 : ACode := .reg (.op (some 65) (.mov (.tm 7)) (.op (some 66) (.mov (.tm 9)) (.op (some 67) (.fieldAddr (.tm 2) 2 1) (.op (some 68) (.load1 (.tm 67)) (.op (some 69) (.call 41 [(.cn (.nilslice)), (.tm 66), (.tm 68)]) (.op (some 70) (.copy .u8 (.tm 65) (.tm 69)) .nil))))))
def cwDo_n22 : ACode := .reg (.op (some 71) (.loadA 32 (.tm 3)) (.op (some 72) (.mov (.tm 8)) (.op none (.storeA 32 (.tm 4) (.tm 71)) (.op (some 5) (.mov (.tm 72)) .nil))))
def cwDo : ACode := (.seq cwDo_n0 (.seq (.seq cwDo_n1 cwDo_n3) (.seq cwDo_n4 (.seq cwDo_n5 (.seq cwDo_n6 (.seq cwDo_n7 (.seq (.seq cwDo_n8 cwDo_n20) (.seq cwDo_n21 (.seq cwDo_n22 .ret)))))))))
def RwDo : Res := .many [.cA 4 32, .tm 5]
theorem cwDo_fits : fnFits Try.prog 60 2 73 cwDo RwDo = true := by kernel_rfl
def GwDo : Calls' := withP [pcwMask, pcwChanges, pcwSize] [conbNumber, conbRead]
theorem hGwDo : CallOk Try.prog GwDo := withP_ok ⟨swMask, swChanges, swSize, trivial⟩ ⟨sbNumber.dC, sbRead.dC, trivial⟩
section
variable {w0 : World} {fp : Nat → Nat → Prop} {ρi : Rho} {Kf : SVal → Heap → Prop}
theorem rwDo_0 (o : OpV) (x : List Int) (Z : Env → Heap → Prop) (h : Z [(4, some (.ptr ⟨2, 0, 0, 1⟩ 32)), (5, some (.int .u64 0))] ⟨3, [(2, some ⟨true, [.ints .u8 32 x], 0⟩)]⟩) : EvC GwDo cwDo_n2 [(3, some (.ptr ⟨1, 0, 0, 1⟩ 32)), (4, some (.ptr ⟨2, 0, 0, 1⟩ 32))] ⟨3, [(1, some ⟨true, [.ints .u8 32 x], 0⟩), (2, some ⟨true, [.ints .u8 32 (List.replicate 32 0)], 0⟩)]⟩ [4, 5] [2] Z := EvC.of (by kernel_rfl) h
theorem rtwDo_0 (o : OpV) (x : List Int) : RetC RwDo [(4, some (.ptr ⟨2, 0, 0, 1⟩ 32)), (5, some (.int .u64 0))] ⟨3, [(2, some ⟨true, [.ints .u8 32 x], 0⟩)]⟩ (.tuple [.agg [.ints .u8 32 x], .int .u64 0]) := RetC.of (fun Z => by kernel_rfl)
def vwDo_0 (o : OpV) (x : List Int) : Prop := (x = (OpV.next o x)) ∧ (0 = (OpV.result o x))
theorem pwDo_0 (o : OpV) (x : List Int) (hK : Kf (.tuple [.agg [.ints .u8 32 (OpV.next o x)], .int .u64 (OpV.result o x)]) ⟨0, []⟩) (h : vwDo_0 o x) : SemL Try.prog w0 fp ρi 0 73 [cwDo_n2, .ret, (.seq cwDo_n4 (.seq cwDo_n5 (.seq cwDo_n6 (.seq cwDo_n7 (.seq (.seq cwDo_n8 cwDo_n20) (.seq cwDo_n21 (.seq cwDo_n22 .ret)))))))] [(3, some (.ptr ⟨1, 0, 0, 1⟩ 32)), (4, some (.ptr ⟨2, 0, 0, 1⟩ 32))] ⟨3, [(1, some ⟨true, [.ints .u8 32 x], 0⟩), (2, some ⟨true, [.ints .u8 32 (List.replicate 32 0)], 0⟩)]⟩ (fnK RwDo 0 Kf) :=
  L_regE hGwDo (rwDo_0 o x (fun e H => SemL Try.prog w0 fp ρi 0 73 [.ret, (.seq cwDo_n4 (.seq cwDo_n5 (.seq cwDo_n6 (.seq cwDo_n7 (.seq (.seq cwDo_n8 cwDo_n20) (.seq cwDo_n21 (.seq cwDo_n22 .ret)))))))] e H (fnK RwDo 0 Kf)) (L_retE (R := RwDo) (m := 0) (Kf := Kf) (fun _ _ h => h) (rtwDo_0 o x) (ret_plain rfl (by kernel_rfl) (cg2 (fun (z1 : List Int) (z2 : Int) => (.tuple [.agg [.ints .u8 32 z1], .int .u64 z2] : SVal)) h.1 h.2) hK)))
def kkwDo_0 (w0 : World) (fp : Nat → Nat → Prop) (ρi : Rho) (Kf : SVal → Heap → Prop) (o : OpV) (x : List Int) : Cont := blockK 0 (fun e H => SemL Try.prog w0 fp ρi 0 73 [(.seq cwDo_n21 (.seq cwDo_n22 .ret))] e H (fnK RwDo 0 Kf)) (fnK RwDo 0 Kf)
theorem rwDo_1 (o : OpV) (x : List Int) (v8 : Int) (Z : Env → Heap → Prop) (h : Z [(4, some (.ptr ⟨2, 0, 0, 1⟩ 32)), (5, some (.int .u64 v8))] ⟨3, [(2, some ⟨true, [.ints .u8 32 x], 0⟩)]⟩) : EvC GwDo cwDo_n10 [(3, some (.ptr ⟨1, 0, 0, 1⟩ 32)), (4, some (.ptr ⟨2, 0, 0, 1⟩ 32)), (8, some (.int .u64 v8))] ⟨3, [(1, some ⟨true, [.ints .u8 32 x], 0⟩), (2, some ⟨true, [.ints .u8 32 (List.replicate 32 0)], 0⟩)]⟩ [4, 5] [2] Z := EvC.of (by kernel_rfl) h
theorem rtwDo_1 (o : OpV) (x : List Int) (v8 : Int) : RetC RwDo [(4, some (.ptr ⟨2, 0, 0, 1⟩ 32)), (5, some (.int .u64 v8))] ⟨3, [(2, some ⟨true, [.ints .u8 32 x], 0⟩)]⟩ (.tuple [.agg [.ints .u8 32 x], .int .u64 v8]) := RetC.of (fun Z => by kernel_rfl)
def vwDo_1 (o : OpV) (x : List Int) (v8 : Int) : Prop := (x = (OpV.next o x)) ∧ (v8 = (OpV.result o x))
theorem pwDo_1 (o : OpV) (x : List Int) (hK : Kf (.tuple [.agg [.ints .u8 32 (OpV.next o x)], .int .u64 (OpV.result o x)]) ⟨0, []⟩) (v8 : Int) (h : vwDo_1 o x v8) : SemL Try.prog w0 fp ρi 0 73 [cwDo_n10, .ret] [(3, some (.ptr ⟨1, 0, 0, 1⟩ 32)), (4, some (.ptr ⟨2, 0, 0, 1⟩ 32)), (8, some (.int .u64 v8))] ⟨3, [(1, some ⟨true, [.ints .u8 32 x], 0⟩), (2, some ⟨true, [.ints .u8 32 (List.replicate 32 0)], 0⟩)]⟩ (kkwDo_0 w0 fp ρi Kf o x) :=
  L_regE hGwDo (rwDo_1 o x v8 (fun e H => SemL Try.prog w0 fp ρi 0 73 [.ret] e H (kkwDo_0 w0 fp ρi Kf o x)) (L_retE (R := RwDo) (m := 0) (Kf := Kf) (fun _ _ h => h) (rtwDo_1 o x v8) (ret_plain rfl (by kernel_rfl) (cg2 (fun (z1 : List Int) (z2 : Int) => (.tuple [.agg [.ints .u8 32 z1], .int .u64 z2] : SVal)) h.1 h.2) hK)))
theorem rwDo_2 (o : OpV) (x : List Int) (v8 : Int) (Z : Env → Heap → Prop) (h : Z [(4, some (.ptr ⟨2, 0, 0, 1⟩ 32)), (5, some (.int .u64 v8))] ⟨3, [(2, some ⟨true, [.ints .u8 32 x], 0⟩)]⟩) : EvC GwDo cwDo_n13 [(3, some (.ptr ⟨1, 0, 0, 1⟩ 32)), (4, some (.ptr ⟨2, 0, 0, 1⟩ 32)), (8, some (.int .u64 v8))] ⟨3, [(1, some ⟨true, [.ints .u8 32 x], 0⟩), (2, some ⟨true, [.ints .u8 32 (List.replicate 32 0)], 0⟩)]⟩ [4, 5] [2] Z := EvC.of (by kernel_rfl) h
theorem rtwDo_2 (o : OpV) (x : List Int) (v8 : Int) : RetC RwDo [(4, some (.ptr ⟨2, 0, 0, 1⟩ 32)), (5, some (.int .u64 v8))] ⟨3, [(2, some ⟨true, [.ints .u8 32 x], 0⟩)]⟩ (.tuple [.agg [.ints .u8 32 x], .int .u64 v8]) := RetC.of (fun Z => by kernel_rfl)
def vwDo_2 (o : OpV) (x : List Int) (v8 : Int) : Prop := (x = (OpV.next o x)) ∧ (v8 = (OpV.result o x))
theorem pwDo_2 (o : OpV) (x : List Int) (hK : Kf (.tuple [.agg [.ints .u8 32 (OpV.next o x)], .int .u64 (OpV.result o x)]) ⟨0, []⟩) (v8 : Int) (h : vwDo_2 o x v8) : SemL Try.prog w0 fp ρi 0 73 [cwDo_n13, .ret] [(3, some (.ptr ⟨1, 0, 0, 1⟩ 32)), (4, some (.ptr ⟨2, 0, 0, 1⟩ 32)), (8, some (.int .u64 v8))] ⟨3, [(1, some ⟨true, [.ints .u8 32 x], 0⟩), (2, some ⟨true, [.ints .u8 32 (List.replicate 32 0)], 0⟩)]⟩ (kkwDo_0 w0 fp ρi Kf o x) :=
  L_regE hGwDo (rwDo_2 o x v8 (fun e H => SemL Try.prog w0 fp ρi 0 73 [.ret] e H (kkwDo_0 w0 fp ρi Kf o x)) (L_retE (R := RwDo) (m := 0) (Kf := Kf) (fun _ _ h => h) (rtwDo_2 o x v8) (ret_plain rfl (by kernel_rfl) (cg2 (fun (z1 : List Int) (z2 : Int) => (.tuple [.agg [.ints .u8 32 z1], .int .u64 z2] : SVal)) h.1 h.2) hK)))
theorem rwDo_3 (o : OpV) (x : List Int) (v8 : Int) (h1 : List Int) (Z : Env → Heap → Prop) (h : Z [(4, some (.ptr ⟨2, 0, 0, 1⟩ 32)), (5, some (.int .u64 v8))] ⟨5, [(2, some ⟨true, [.ints .u8 32 h1], 0⟩)]⟩) : EvC GwDo cwDo_n22 [(3, some (.ptr ⟨1, 0, 0, 1⟩ 32)), (4, some (.ptr ⟨2, 0, 0, 1⟩ 32)), (8, some (.int .u64 v8))] ⟨5, [(1, some ⟨true, [.ints .u8 32 h1], 0⟩), (2, some ⟨true, [.ints .u8 32 (List.replicate 32 0)], 0⟩)]⟩ [4, 5] [2] Z := EvC.of (by kernel_rfl) h
theorem rtwDo_3 (o : OpV) (x : List Int) (v8 : Int) (h1 : List Int) : RetC RwDo [(4, some (.ptr ⟨2, 0, 0, 1⟩ 32)), (5, some (.int .u64 v8))] ⟨5, [(2, some ⟨true, [.ints .u8 32 h1], 0⟩)]⟩ (.tuple [.agg [.ints .u8 32 h1], .int .u64 v8]) := RetC.of (fun Z => by kernel_rfl)
def vwDo_3 (o : OpV) (x : List Int) (v8 : Int) (h1 : List Int) : Prop := (h1 = (OpV.next o x)) ∧ (v8 = (OpV.result o x))
theorem pwDo_3 (o : OpV) (x : List Int) (hK : Kf (.tuple [.agg [.ints .u8 32 (OpV.next o x)], .int .u64 (OpV.result o x)]) ⟨0, []⟩) (v8 : Int) (h1 : List Int) (h : vwDo_3 o x v8 h1) : SemL Try.prog w0 fp ρi 0 73 [cwDo_n22, .ret] [(3, some (.ptr ⟨1, 0, 0, 1⟩ 32)), (4, some (.ptr ⟨2, 0, 0, 1⟩ 32)), (8, some (.int .u64 v8))] ⟨5, [(1, some ⟨true, [.ints .u8 32 h1], 0⟩), (2, some ⟨true, [.ints .u8 32 (List.replicate 32 0)], 0⟩)]⟩ (fnK RwDo 0 Kf) :=
  L_regE hGwDo (rwDo_3 o x v8 h1 (fun e H => SemL Try.prog w0 fp ρi 0 73 [.ret] e H (fnK RwDo 0 Kf)) (L_retE (R := RwDo) (m := 0) (Kf := Kf) (fun _ _ h => h) (rtwDo_3 o x v8 h1) (ret_plain rfl (by kernel_rfl) (cg2 (fun (z1 : List Int) (z2 : Int) => (.tuple [.agg [.ints .u8 32 z1], .int .u64 z2] : SVal)) h.1 h.2) hK)))
theorem rwDo_4 (o : OpV) (x : List Int) (v7i : Nat) (v7l : Nat) (v7c : Nat) (v8 : Int) (v9 : Int) (Z : Env → Heap → Prop) (h : (((0 : Nat) ≤ 0)) ∧ (((0 : Nat) = 0)) ∧ ((List.length ([] : List Int) = 0 ∧ 0 ≤ 1000000 ∧ 0 ≤ v9 ∧ v9 < 2 ^ 64)) ∧ ∀ (c : Nat), (0 + Int.toNat (min o.on 64)) ≤ c → (((0 + (0 + Int.toNat (min o.on 64))) ≤ (0 + Int.toNat (min o.on 64)))) ∧ (((min (0 + Int.toNat (min o.on 64)) v7l) = (min (0 + Int.toNat (min o.on 64)) v7l))) ∧ (((v7i + (min (0 + Int.toNat (min o.on 64)) v7l)) ≤ 32)) ∧ ((List.length x = 32)) ∧ ((List.length (List.take (min (0 + Int.toNat (min o.on 64)) v7l) (List.take (0 + Int.toNat (min o.on 64)) (numB v9 (Int.toNat (min o.on 64))))) = (min (0 + Int.toNat (min o.on 64)) v7l))) ∧ Z [(3, some (.ptr ⟨1, 0, 0, 1⟩ 32)), (4, some (.ptr ⟨2, 0, 0, 1⟩ 32)), (8, some (.int .u64 v8))] ⟨5, [(1, some ⟨true, [.ints .u8 32 (List.take v7i x ++ (List.take (min (0 + Int.toNat (min o.on 64)) v7l) (List.take (0 + Int.toNat (min o.on 64)) (numB v9 (Int.toNat (min o.on 64))))) ++ List.drop (v7i + (min (0 + Int.toNat (min o.on 64)) v7l)) x)], 0⟩), (2, some ⟨true, [.ints .u8 32 (List.replicate 32 0)], 0⟩)]⟩) : EvC GwDo cwDo_n21 [(2, some (.ptr ⟨0, 0, 0, 1⟩ 5)), (3, some (.ptr ⟨1, 0, 0, 1⟩ 32)), (4, some (.ptr ⟨2, 0, 0, 1⟩ 32)), (7, some (.slice ⟨1, 0, v7i, 1⟩ v7l v7c)), (8, some (.int .u64 v8)), (9, some (.int .u64 v9))] ⟨3, [(0, some ⟨true, (OpV.cs o), 0⟩), (1, some ⟨true, [.ints .u8 32 x], 0⟩), (2, some ⟨true, [.ints .u8 32 (List.replicate 32 0)], 0⟩)]⟩ [3, 4, 8] [1, 2] Z := EvC.of (by kernel_rfl) h
def vwDo_4 (o : OpV) (x : List Int) (v7i : Nat) (v7l : Nat) (v7c : Nat) (v8 : Int) (v9 : Int) : Prop := ((List.length ([] : List Int) = 0 ∧ 0 ≤ 1000000 ∧ 0 ≤ v9 ∧ v9 < 2 ^ 64)) ∧ (∀ (c : Nat), ((0 + Int.toNat (min o.on 64)) ≤ c) → ((((0 + (0 + Int.toNat (min o.on 64))) ≤ (0 + Int.toNat (min o.on 64)))) ∧ ((((v7i + (min (0 + Int.toNat (min o.on 64)) v7l)) ≤ 32)) ∧ (((List.length x = 32)) ∧ (((List.length (List.take (min (0 + Int.toNat (min o.on 64)) v7l) (List.take (0 + Int.toNat (min o.on 64)) (numB v9 (Int.toNat (min o.on 64))))) = (min (0 + Int.toNat (min o.on 64)) v7l))) ∧ (∀ h1 : List Int, h1 = (List.take v7i x ++ (List.take (min (0 + Int.toNat (min o.on 64)) v7l) (List.take (0 + Int.toNat (min o.on 64)) (numB v9 (Int.toNat (min o.on 64))))) ++ List.drop (v7i + (min (0 + Int.toNat (min o.on 64)) v7l)) x) → vwDo_3 o x v8 h1))))))
theorem pwDo_4 (o : OpV) (x : List Int) (hK : Kf (.tuple [.agg [.ints .u8 32 (OpV.next o x)], .int .u64 (OpV.result o x)]) ⟨0, []⟩) (v7i : Nat) (v7l : Nat) (v7c : Nat) (v8 : Int) (v9 : Int) (h : vwDo_4 o x v7i v7l v7c v8 v9) : SemL Try.prog w0 fp ρi 0 73 [cwDo_n21, (.seq cwDo_n22 .ret)] [(2, some (.ptr ⟨0, 0, 0, 1⟩ 5)), (3, some (.ptr ⟨1, 0, 0, 1⟩ 32)), (4, some (.ptr ⟨2, 0, 0, 1⟩ 32)), (7, some (.slice ⟨1, 0, v7i, 1⟩ v7l v7c)), (8, some (.int .u64 v8)), (9, some (.int .u64 v9))] ⟨3, [(0, some ⟨true, (OpV.cs o), 0⟩), (1, some ⟨true, [.ints .u8 32 x], 0⟩), (2, some ⟨true, [.ints .u8 32 (List.replicate 32 0)], 0⟩)]⟩ (fnK RwDo 0 Kf) :=
  L_regE hGwDo (rwDo_4 o x v7i v7l v7c v8 v9 (fun e H => SemL Try.prog w0 fp ρi 0 73 [(.seq cwDo_n22 .ret)] e H (fnK RwDo 0 Kf)) ⟨(by decide), ⟨rfl, ⟨h.1, (fun c h_c_0 => ⟨(h.2 c h_c_0).1, ⟨rfl, ⟨(h.2 c h_c_0).2.1, ⟨(h.2 c h_c_0).2.2.1, ⟨(h.2 c h_c_0).2.2.2.1, (L_seq (pwDo_3 o x hK v8 (List.take v7i x ++ (List.take (min (0 + Int.toNat (min o.on 64)) v7l) (List.take (0 + Int.toNat (min o.on 64)) (numB v9 (Int.toNat (min o.on 64))))) ++ List.drop (v7i + (min (0 + Int.toNat (min o.on 64)) v7l)) x) ((h.2 c h_c_0).2.2.2.2 (List.take v7i x ++ (List.take (min (0 + Int.toNat (min o.on 64)) v7l) (List.take (0 + Int.toNat (min o.on 64)) (numB v9 (Int.toNat (min o.on 64))))) ++ List.drop (v7i + (min (0 + Int.toNat (min o.on 64)) v7l)) x) rfl)))⟩⟩⟩⟩⟩)⟩⟩⟩)
def vwDo_5 (o : OpV) (x : List Int) (v7i : Nat) (v7l : Nat) (v7c : Nat) (v8 : Int) : Prop := ((v8 != (iand .u64 o.owant (maskI o.on))) = true → (vwDo_2 o x v8)) ∧ ((v8 != (iand .u64 o.owant (maskI o.on))) = false → (vwDo_4 o x v7i v7l v7c v8 o.oval))
theorem pwDo_5 (o : OpV) (x : List Int) (hK : Kf (.tuple [.agg [.ints .u8 32 (OpV.next o x)], .int .u64 (OpV.result o x)]) ⟨0, []⟩) (v7i : Nat) (v7l : Nat) (v7c : Nat) (v8 : Int) (h : vwDo_5 o x v7i v7l v7c v8) : SemL Try.prog w0 fp ρi 0 73 [cwDo_n14] [(2, some (.ptr ⟨0, 0, 0, 1⟩ 5)), (3, some (.ptr ⟨1, 0, 0, 1⟩ 32)), (4, some (.ptr ⟨2, 0, 0, 1⟩ 32)), (7, some (.slice ⟨1, 0, v7i, 1⟩ v7l v7c)), (8, some (.int .u64 v8)), (9, some (.int .u64 o.oval)), (57, some (.bool (v8 != (iand .u64 o.owant (maskI o.on)))))] ⟨3, [(0, some ⟨true, (OpV.cs o), 0⟩), (1, some ⟨true, [.ints .u8 32 x], 0⟩), (2, some ⟨true, [.ints .u8 32 (List.replicate 32 0)], 0⟩)]⟩ (kkwDo_0 w0 fp ρi Kf o x) :=
  L_cond (q := (v8 != (iand .u64 o.owant (maskI o.on)))) (by kernel_rfl) (fun hq => (L_seq (L_pick (e' := [(3, some (.ptr ⟨1, 0, 0, 1⟩ 32)), (4, some (.ptr ⟨2, 0, 0, 1⟩ 32)), (8, some (.int .u64 v8))]) (H' := ⟨3, [(1, some ⟨true, [.ints .u8 32 x], 0⟩), (2, some ⟨true, [.ints .u8 32 (List.replicate 32 0)], 0⟩)]⟩) [3, 4, 8] [1, 2] (by kernel_rfl) (by kernel_rfl) (pwDo_2 o x hK v8 (h.1 hq))))) (fun hq => (L_skip (L_nil (L_pick (e' := [(2, some (.ptr ⟨0, 0, 0, 1⟩ 5)), (3, some (.ptr ⟨1, 0, 0, 1⟩ 32)), (4, some (.ptr ⟨2, 0, 0, 1⟩ 32)), (7, some (.slice ⟨1, 0, v7i, 1⟩ v7l v7c)), (8, some (.int .u64 v8)), (9, some (.int .u64 o.oval))]) (H' := ⟨3, [(0, some ⟨true, (OpV.cs o), 0⟩), (1, some ⟨true, [.ints .u8 32 x], 0⟩), (2, some ⟨true, [.ints .u8 32 (List.replicate 32 0)], 0⟩)]⟩) [2, 3, 4, 7, 8, 9] [0, 1, 2] (by kernel_rfl) (by kernel_rfl) (L_seq (pwDo_4 o x hK v7i v7l v7c v8 o.oval (h.2 hq)))))))
theorem rwDo_6 (o : OpV) (x : List Int) (v7i : Nat) (v7l : Nat) (v7c : Nat) (v8 : Int) (Z : Env → Heap → Prop) (h : ((SVal.bd 3 (.int .u64 (maskI o.on)))) ∧ (True ∧ ((.int .u64 (maskI o.on) : SVal) = .int .u64 (maskI o.on)) ∧ (keeps ⟨3, [(0, some ⟨true, (OpV.cs o), 0⟩), (1, some ⟨true, [.ints .u8 32 x], 0⟩), (2, some ⟨true, [.ints .u8 32 (List.replicate 32 0)], 0⟩)]⟩ ⟨3, [(0, some ⟨true, (OpV.cs o), 0⟩), (1, some ⟨true, [.ints .u8 32 x], 0⟩), (2, some ⟨true, [.ints .u8 32 (List.replicate 32 0)], 0⟩)]⟩ [(0, some ⟨true, (OpV.cs o), 0⟩), (1, some ⟨true, [.ints .u8 32 x], 0⟩), (2, some ⟨true, [.ints .u8 32 (List.replicate 32 0)], 0⟩)])) ∧ Z [(2, some (.ptr ⟨0, 0, 0, 1⟩ 5)), (3, some (.ptr ⟨1, 0, 0, 1⟩ 32)), (4, some (.ptr ⟨2, 0, 0, 1⟩ 32)), (7, some (.slice ⟨1, 0, v7i, 1⟩ v7l v7c)), (8, some (.int .u64 v8)), (9, some (.int .u64 o.oval)), (57, some (.bool (v8 != (iand .u64 o.owant (maskI o.on)))))] ⟨3, [(0, some ⟨true, (OpV.cs o), 0⟩), (1, some ⟨true, [.ints .u8 32 x], 0⟩), (2, some ⟨true, [.ints .u8 32 (List.replicate 32 0)], 0⟩)]⟩) : EvQC GwDo cwDo_n12i [.int .u64 (maskI o.on)] [(2, some (.ptr ⟨0, 0, 0, 1⟩ 5)), (3, some (.ptr ⟨1, 0, 0, 1⟩ 32)), (4, some (.ptr ⟨2, 0, 0, 1⟩ 32)), (7, some (.slice ⟨1, 0, v7i, 1⟩ v7l v7c)), (8, some (.int .u64 v8)), (9, some (.int .u64 o.oval))] ⟨3, [(0, some ⟨true, (OpV.cs o), 0⟩), (1, some ⟨true, [.ints .u8 32 x], 0⟩), (2, some ⟨true, [.ints .u8 32 (List.replicate 32 0)], 0⟩)]⟩ [2, 3, 4, 7, 8, 9, 57] [0, 1, 2] Z := EvQC.of (by kernel_rfl) h
def vwDo_6 (o : OpV) (x : List Int) (v7i : Nat) (v7l : Nat) (v7c : Nat) (v8 : Int) : Prop := vwDo_5 o x v7i v7l v7c v8
theorem pwDo_6 (o : OpV) (x : List Int) (hK : Kf (.tuple [.agg [.ints .u8 32 (OpV.next o x)], .int .u64 (OpV.result o x)]) ⟨0, []⟩) (v7i : Nat) (v7l : Nat) (v7c : Nat) (v8 : Int) (h : vwDo_6 o x v7i v7l v7c v8) : SemL Try.prog w0 fp ρi 0 73 [cwDo_n12, cwDo_n14] [(2, some (.ptr ⟨0, 0, 0, 1⟩ 5)), (3, some (.ptr ⟨1, 0, 0, 1⟩ 32)), (4, some (.ptr ⟨2, 0, 0, 1⟩ 32)), (7, some (.slice ⟨1, 0, v7i, 1⟩ v7l v7c)), (8, some (.int .u64 v8)), (9, some (.int .u64 o.oval))] ⟨3, [(0, some ⟨true, (OpV.cs o), 0⟩), (1, some ⟨true, [.ints .u8 32 x], 0⟩), (2, some ⟨true, [.ints .u8 32 (List.replicate 32 0)], 0⟩)]⟩ (kkwDo_0 w0 fp ρi Kf o x) :=
  L_regQE hGwDo (its := cwDo_n12i) (rwDo_6 o x v7i v7l v7c v8 (fun e H => SemL Try.prog w0 fp ρi 0 73 [cwDo_n14] e H (kkwDo_0 w0 fp ρi Kf o x)) ⟨(plainR_ren (τ := whole) (by kernel_rfl)).2, ⟨⟨True.intro, rfl, (keeps_refl _)⟩, (pwDo_5 o x hK v7i v7l v7c v8 h)⟩⟩)
theorem rwDo_7 (o : OpV) (x : List Int) (v7i : Nat) (v7l : Nat) (v7c : Nat) (v8 : Int) (Z : Env → Heap → Prop) (h : Z [(2, some (.ptr ⟨0, 0, 0, 1⟩ 5)), (3, some (.ptr ⟨1, 0, 0, 1⟩ 32)), (4, some (.ptr ⟨2, 0, 0, 1⟩ 32)), (7, some (.slice ⟨1, 0, v7i, 1⟩ v7l v7c)), (8, some (.int .u64 v8)), (9, some (.int .u64 (IntKind.u64.wrap (o.oval + v8))))] ⟨3, [(0, some ⟨true, (OpV.cs o), 0⟩), (1, some ⟨true, [.ints .u8 32 x], 0⟩), (2, some ⟨true, [.ints .u8 32 (List.replicate 32 0)], 0⟩)]⟩) : EvC GwDo cwDo_n16 [(2, some (.ptr ⟨0, 0, 0, 1⟩ 5)), (3, some (.ptr ⟨1, 0, 0, 1⟩ 32)), (4, some (.ptr ⟨2, 0, 0, 1⟩ 32)), (7, some (.slice ⟨1, 0, v7i, 1⟩ v7l v7c)), (8, some (.int .u64 v8)), (9, some (.int .u64 o.oval))] ⟨3, [(0, some ⟨true, (OpV.cs o), 0⟩), (1, some ⟨true, [.ints .u8 32 x], 0⟩), (2, some ⟨true, [.ints .u8 32 (List.replicate 32 0)], 0⟩)]⟩ [2, 3, 4, 7, 8, 9] [0, 1, 2] Z := EvC.of (by kernel_rfl) h
def vwDo_7 (o : OpV) (x : List Int) (v7i : Nat) (v7l : Nat) (v7c : Nat) (v8 : Int) : Prop := ∀ v9 : Int, v9 = (o.oval + v8) % 18446744073709551616 → vwDo_4 o x v7i v7l v7c v8 v9
theorem pwDo_7 (o : OpV) (x : List Int) (hK : Kf (.tuple [.agg [.ints .u8 32 (OpV.next o x)], .int .u64 (OpV.result o x)]) ⟨0, []⟩) (v7i : Nat) (v7l : Nat) (v7c : Nat) (v8 : Int) (h : vwDo_7 o x v7i v7l v7c v8) : SemL Try.prog w0 fp ρi 0 73 [cwDo_n16] [(2, some (.ptr ⟨0, 0, 0, 1⟩ 5)), (3, some (.ptr ⟨1, 0, 0, 1⟩ 32)), (4, some (.ptr ⟨2, 0, 0, 1⟩ 32)), (7, some (.slice ⟨1, 0, v7i, 1⟩ v7l v7c)), (8, some (.int .u64 v8)), (9, some (.int .u64 o.oval))] ⟨3, [(0, some ⟨true, (OpV.cs o), 0⟩), (1, some ⟨true, [.ints .u8 32 x], 0⟩), (2, some ⟨true, [.ints .u8 32 (List.replicate 32 0)], 0⟩)]⟩ (kkwDo_0 w0 fp ρi Kf o x) :=
  L_regE hGwDo (rwDo_7 o x v7i v7l v7c v8 (fun e H => SemL Try.prog w0 fp ρi 0 73 [] e H (kkwDo_0 w0 fp ρi Kf o x)) (L_nil (L_seq (pwDo_4 o x hK v7i v7l v7c v8 (IntKind.u64.wrap (o.oval + v8)) (h (IntKind.u64.wrap (o.oval + v8)) (wrap_u64 _))))))
def vwDo_8 (o : OpV) (x : List Int) (v7i : Nat) (v7l : Nat) (v7c : Nat) (v8 : Int) : Prop := ((o.okind == 4) = true → (vwDo_7 o x v7i v7l v7c v8)) ∧ ((o.okind == 4) = false → (vwDo_4 o x v7i v7l v7c v8 o.oval))
theorem pwDo_8 (o : OpV) (x : List Int) (hK : Kf (.tuple [.agg [.ints .u8 32 (OpV.next o x)], .int .u64 (OpV.result o x)]) ⟨0, []⟩) (v7i : Nat) (v7l : Nat) (v7c : Nat) (v8 : Int) (h : vwDo_8 o x v7i v7l v7c v8) : SemL Try.prog w0 fp ρi 0 73 [cwDo_n17] [(2, some (.ptr ⟨0, 0, 0, 1⟩ 5)), (3, some (.ptr ⟨1, 0, 0, 1⟩ 32)), (4, some (.ptr ⟨2, 0, 0, 1⟩ 32)), (7, some (.slice ⟨1, 0, v7i, 1⟩ v7l v7c)), (8, some (.int .u64 v8)), (9, some (.int .u64 o.oval)), (60, some (.bool (o.okind == 4)))] ⟨3, [(0, some ⟨true, (OpV.cs o), 0⟩), (1, some ⟨true, [.ints .u8 32 x], 0⟩), (2, some ⟨true, [.ints .u8 32 (List.replicate 32 0)], 0⟩)]⟩ (kkwDo_0 w0 fp ρi Kf o x) :=
  L_cond (q := (o.okind == 4)) (by kernel_rfl) (fun hq => (L_pick (e' := [(2, some (.ptr ⟨0, 0, 0, 1⟩ 5)), (3, some (.ptr ⟨1, 0, 0, 1⟩ 32)), (4, some (.ptr ⟨2, 0, 0, 1⟩ 32)), (7, some (.slice ⟨1, 0, v7i, 1⟩ v7l v7c)), (8, some (.int .u64 v8)), (9, some (.int .u64 o.oval))]) (H' := ⟨3, [(0, some ⟨true, (OpV.cs o), 0⟩), (1, some ⟨true, [.ints .u8 32 x], 0⟩), (2, some ⟨true, [.ints .u8 32 (List.replicate 32 0)], 0⟩)]⟩) [2, 3, 4, 7, 8, 9] [0, 1, 2] (by kernel_rfl) (by kernel_rfl) (pwDo_7 o x hK v7i v7l v7c v8 (h.1 hq)))) (fun hq => (L_skip (L_nil (L_pick (e' := [(2, some (.ptr ⟨0, 0, 0, 1⟩ 5)), (3, some (.ptr ⟨1, 0, 0, 1⟩ 32)), (4, some (.ptr ⟨2, 0, 0, 1⟩ 32)), (7, some (.slice ⟨1, 0, v7i, 1⟩ v7l v7c)), (8, some (.int .u64 v8)), (9, some (.int .u64 o.oval))]) (H' := ⟨3, [(0, some ⟨true, (OpV.cs o), 0⟩), (1, some ⟨true, [.ints .u8 32 x], 0⟩), (2, some ⟨true, [.ints .u8 32 (List.replicate 32 0)], 0⟩)]⟩) [2, 3, 4, 7, 8, 9] [0, 1, 2] (by kernel_rfl) (by kernel_rfl) (L_seq (pwDo_4 o x hK v7i v7l v7c v8 o.oval (h.2 hq)))))))
theorem rwDo_9 (o : OpV) (x : List Int) (v7i : Nat) (v7l : Nat) (v7c : Nat) (v8 : Int) (Z : Env → Heap → Prop) (h : Z [(2, some (.ptr ⟨0, 0, 0, 1⟩ 5)), (3, some (.ptr ⟨1, 0, 0, 1⟩ 32)), (4, some (.ptr ⟨2, 0, 0, 1⟩ 32)), (7, some (.slice ⟨1, 0, v7i, 1⟩ v7l v7c)), (8, some (.int .u64 v8)), (9, some (.int .u64 o.oval)), (60, some (.bool (o.okind == 4)))] ⟨3, [(0, some ⟨true, (OpV.cs o), 0⟩), (1, some ⟨true, [.ints .u8 32 x], 0⟩), (2, some ⟨true, [.ints .u8 32 (List.replicate 32 0)], 0⟩)]⟩) : EvC GwDo cwDo_n15 [(2, some (.ptr ⟨0, 0, 0, 1⟩ 5)), (3, some (.ptr ⟨1, 0, 0, 1⟩ 32)), (4, some (.ptr ⟨2, 0, 0, 1⟩ 32)), (7, some (.slice ⟨1, 0, v7i, 1⟩ v7l v7c)), (8, some (.int .u64 v8)), (9, some (.int .u64 o.oval)), (43, some (.int .i64 o.okind))] ⟨3, [(0, some ⟨true, (OpV.cs o), 0⟩), (1, some ⟨true, [.ints .u8 32 x], 0⟩), (2, some ⟨true, [.ints .u8 32 (List.replicate 32 0)], 0⟩)]⟩ [2, 3, 4, 7, 8, 9, 60] [0, 1, 2] Z := EvC.of (by kernel_rfl) h
def vwDo_9 (o : OpV) (x : List Int) (v7i : Nat) (v7l : Nat) (v7c : Nat) (v8 : Int) : Prop := vwDo_8 o x v7i v7l v7c v8
theorem pwDo_9 (o : OpV) (x : List Int) (hK : Kf (.tuple [.agg [.ints .u8 32 (OpV.next o x)], .int .u64 (OpV.result o x)]) ⟨0, []⟩) (v7i : Nat) (v7l : Nat) (v7c : Nat) (v8 : Int) (h : vwDo_9 o x v7i v7l v7c v8) : SemL Try.prog w0 fp ρi 0 73 [cwDo_n15, cwDo_n17] [(2, some (.ptr ⟨0, 0, 0, 1⟩ 5)), (3, some (.ptr ⟨1, 0, 0, 1⟩ 32)), (4, some (.ptr ⟨2, 0, 0, 1⟩ 32)), (7, some (.slice ⟨1, 0, v7i, 1⟩ v7l v7c)), (8, some (.int .u64 v8)), (9, some (.int .u64 o.oval)), (43, some (.int .i64 o.okind))] ⟨3, [(0, some ⟨true, (OpV.cs o), 0⟩), (1, some ⟨true, [.ints .u8 32 x], 0⟩), (2, some ⟨true, [.ints .u8 32 (List.replicate 32 0)], 0⟩)]⟩ (kkwDo_0 w0 fp ρi Kf o x) :=
  L_regE hGwDo (rwDo_9 o x v7i v7l v7c v8 (fun e H => SemL Try.prog w0 fp ρi 0 73 [cwDo_n17] e H (kkwDo_0 w0 fp ρi Kf o x)) (pwDo_8 o x hK v7i v7l v7c v8 h))
def vwDo_10 (o : OpV) (x : List Int) (v7i : Nat) (v7l : Nat) (v7c : Nat) (v8 : Int) : Prop := ((o.okind == 3) = true → (vwDo_6 o x v7i v7l v7c v8)) ∧ ((o.okind == 3) = false → (vwDo_9 o x v7i v7l v7c v8))
theorem pwDo_10 (o : OpV) (x : List Int) (hK : Kf (.tuple [.agg [.ints .u8 32 (OpV.next o x)], .int .u64 (OpV.result o x)]) ⟨0, []⟩) (v7i : Nat) (v7l : Nat) (v7c : Nat) (v8 : Int) (h : vwDo_10 o x v7i v7l v7c v8) : SemL Try.prog w0 fp ρi 0 73 [cwDo_n18] [(2, some (.ptr ⟨0, 0, 0, 1⟩ 5)), (3, some (.ptr ⟨1, 0, 0, 1⟩ 32)), (4, some (.ptr ⟨2, 0, 0, 1⟩ 32)), (7, some (.slice ⟨1, 0, v7i, 1⟩ v7l v7c)), (8, some (.int .u64 v8)), (9, some (.int .u64 o.oval)), (43, some (.int .i64 o.okind)), (48, some (.bool (o.okind == 3)))] ⟨3, [(0, some ⟨true, (OpV.cs o), 0⟩), (1, some ⟨true, [.ints .u8 32 x], 0⟩), (2, some ⟨true, [.ints .u8 32 (List.replicate 32 0)], 0⟩)]⟩ (kkwDo_0 w0 fp ρi Kf o x) :=
  L_cond (q := (o.okind == 3)) (by kernel_rfl) (fun hq => (L_seq (L_pick (e' := [(2, some (.ptr ⟨0, 0, 0, 1⟩ 5)), (3, some (.ptr ⟨1, 0, 0, 1⟩ 32)), (4, some (.ptr ⟨2, 0, 0, 1⟩ 32)), (7, some (.slice ⟨1, 0, v7i, 1⟩ v7l v7c)), (8, some (.int .u64 v8)), (9, some (.int .u64 o.oval))]) (H' := ⟨3, [(0, some ⟨true, (OpV.cs o), 0⟩), (1, some ⟨true, [.ints .u8 32 x], 0⟩), (2, some ⟨true, [.ints .u8 32 (List.replicate 32 0)], 0⟩)]⟩) [2, 3, 4, 7, 8, 9] [0, 1, 2] (by kernel_rfl) (by kernel_rfl) (pwDo_6 o x hK v7i v7l v7c v8 (h.1 hq))))) (fun hq => (L_seq (L_pick (e' := [(2, some (.ptr ⟨0, 0, 0, 1⟩ 5)), (3, some (.ptr ⟨1, 0, 0, 1⟩ 32)), (4, some (.ptr ⟨2, 0, 0, 1⟩ 32)), (7, some (.slice ⟨1, 0, v7i, 1⟩ v7l v7c)), (8, some (.int .u64 v8)), (9, some (.int .u64 o.oval)), (43, some (.int .i64 o.okind))]) (H' := ⟨3, [(0, some ⟨true, (OpV.cs o), 0⟩), (1, some ⟨true, [.ints .u8 32 x], 0⟩), (2, some ⟨true, [.ints .u8 32 (List.replicate 32 0)], 0⟩)]⟩) [2, 3, 4, 7, 8, 9, 43] [0, 1, 2] (by kernel_rfl) (by kernel_rfl) (pwDo_9 o x hK v7i v7l v7c v8 (h.2 hq)))))
theorem rwDo_11 (o : OpV) (x : List Int) (v7i : Nat) (v7l : Nat) (v7c : Nat) (v8 : Int) (Z : Env → Heap → Prop) (h : Z [(2, some (.ptr ⟨0, 0, 0, 1⟩ 5)), (3, some (.ptr ⟨1, 0, 0, 1⟩ 32)), (4, some (.ptr ⟨2, 0, 0, 1⟩ 32)), (7, some (.slice ⟨1, 0, v7i, 1⟩ v7l v7c)), (8, some (.int .u64 v8)), (9, some (.int .u64 o.oval)), (43, some (.int .i64 o.okind)), (48, some (.bool (o.okind == 3)))] ⟨3, [(0, some ⟨true, (OpV.cs o), 0⟩), (1, some ⟨true, [.ints .u8 32 x], 0⟩), (2, some ⟨true, [.ints .u8 32 (List.replicate 32 0)], 0⟩)]⟩) : EvC GwDo cwDo_n11 [(2, some (.ptr ⟨0, 0, 0, 1⟩ 5)), (3, some (.ptr ⟨1, 0, 0, 1⟩ 32)), (4, some (.ptr ⟨2, 0, 0, 1⟩ 32)), (7, some (.slice ⟨1, 0, v7i, 1⟩ v7l v7c)), (8, some (.int .u64 v8)), (9, some (.int .u64 o.oval)), (43, some (.int .i64 o.okind))] ⟨3, [(0, some ⟨true, (OpV.cs o), 0⟩), (1, some ⟨true, [.ints .u8 32 x], 0⟩), (2, some ⟨true, [.ints .u8 32 (List.replicate 32 0)], 0⟩)]⟩ [2, 3, 4, 7, 8, 9, 43, 48] [0, 1, 2] Z := EvC.of (by kernel_rfl) h
def vwDo_11 (o : OpV) (x : List Int) (v7i : Nat) (v7l : Nat) (v7c : Nat) (v8 : Int) : Prop := vwDo_10 o x v7i v7l v7c v8
theorem pwDo_11 (o : OpV) (x : List Int) (hK : Kf (.tuple [.agg [.ints .u8 32 (OpV.next o x)], .int .u64 (OpV.result o x)]) ⟨0, []⟩) (v7i : Nat) (v7l : Nat) (v7c : Nat) (v8 : Int) (h : vwDo_11 o x v7i v7l v7c v8) : SemL Try.prog w0 fp ρi 0 73 [cwDo_n11, cwDo_n18] [(2, some (.ptr ⟨0, 0, 0, 1⟩ 5)), (3, some (.ptr ⟨1, 0, 0, 1⟩ 32)), (4, some (.ptr ⟨2, 0, 0, 1⟩ 32)), (7, some (.slice ⟨1, 0, v7i, 1⟩ v7l v7c)), (8, some (.int .u64 v8)), (9, some (.int .u64 o.oval)), (43, some (.int .i64 o.okind))] ⟨3, [(0, some ⟨true, (OpV.cs o), 0⟩), (1, some ⟨true, [.ints .u8 32 x], 0⟩), (2, some ⟨true, [.ints .u8 32 (List.replicate 32 0)], 0⟩)]⟩ (kkwDo_0 w0 fp ρi Kf o x) :=
  L_regE hGwDo (rwDo_11 o x v7i v7l v7c v8 (fun e H => SemL Try.prog w0 fp ρi 0 73 [cwDo_n18] e H (kkwDo_0 w0 fp ρi Kf o x)) (pwDo_10 o x hK v7i v7l v7c v8 h))
def vwDo_12 (o : OpV) (x : List Int) (v7i : Nat) (v7l : Nat) (v7c : Nat) (v8 : Int) : Prop := ((o.okind == 1) = true → (vwDo_1 o x v8)) ∧ ((o.okind == 1) = false → (vwDo_11 o x v7i v7l v7c v8))
theorem pwDo_12 (o : OpV) (x : List Int) (hK : Kf (.tuple [.agg [.ints .u8 32 (OpV.next o x)], .int .u64 (OpV.result o x)]) ⟨0, []⟩) (v7i : Nat) (v7l : Nat) (v7c : Nat) (v8 : Int) (h : vwDo_12 o x v7i v7l v7c v8) : SemL Try.prog w0 fp ρi 0 73 [cwDo_n19] [(2, some (.ptr ⟨0, 0, 0, 1⟩ 5)), (3, some (.ptr ⟨1, 0, 0, 1⟩ 32)), (4, some (.ptr ⟨2, 0, 0, 1⟩ 32)), (7, some (.slice ⟨1, 0, v7i, 1⟩ v7l v7c)), (8, some (.int .u64 v8)), (9, some (.int .u64 o.oval)), (43, some (.int .i64 o.okind)), (44, some (.bool (o.okind == 1)))] ⟨3, [(0, some ⟨true, (OpV.cs o), 0⟩), (1, some ⟨true, [.ints .u8 32 x], 0⟩), (2, some ⟨true, [.ints .u8 32 (List.replicate 32 0)], 0⟩)]⟩ (kkwDo_0 w0 fp ρi Kf o x) :=
  L_cond (q := (o.okind == 1)) (by kernel_rfl) (fun hq => (L_seq (L_pick (e' := [(3, some (.ptr ⟨1, 0, 0, 1⟩ 32)), (4, some (.ptr ⟨2, 0, 0, 1⟩ 32)), (8, some (.int .u64 v8))]) (H' := ⟨3, [(1, some ⟨true, [.ints .u8 32 x], 0⟩), (2, some ⟨true, [.ints .u8 32 (List.replicate 32 0)], 0⟩)]⟩) [3, 4, 8] [1, 2] (by kernel_rfl) (by kernel_rfl) (pwDo_1 o x hK v8 (h.1 hq))))) (fun hq => (L_seq (L_pick (e' := [(2, some (.ptr ⟨0, 0, 0, 1⟩ 5)), (3, some (.ptr ⟨1, 0, 0, 1⟩ 32)), (4, some (.ptr ⟨2, 0, 0, 1⟩ 32)), (7, some (.slice ⟨1, 0, v7i, 1⟩ v7l v7c)), (8, some (.int .u64 v8)), (9, some (.int .u64 o.oval)), (43, some (.int .i64 o.okind))]) (H' := ⟨3, [(0, some ⟨true, (OpV.cs o), 0⟩), (1, some ⟨true, [.ints .u8 32 x], 0⟩), (2, some ⟨true, [.ints .u8 32 (List.replicate 32 0)], 0⟩)]⟩) [2, 3, 4, 7, 8, 9, 43] [0, 1, 2] (by kernel_rfl) (by kernel_rfl) (pwDo_11 o x hK v7i v7l v7c v8 (h.2 hq)))))
theorem rwDo_13 (o : OpV) (x : List Int) (v7i : Nat) (v7l : Nat) (v7c : Nat) (v8 : Int) (Z : Env → Heap → Prop) (h : Z [(2, some (.ptr ⟨0, 0, 0, 1⟩ 5)), (3, some (.ptr ⟨1, 0, 0, 1⟩ 32)), (4, some (.ptr ⟨2, 0, 0, 1⟩ 32)), (7, some (.slice ⟨1, 0, v7i, 1⟩ v7l v7c)), (8, some (.int .u64 v8)), (9, some (.int .u64 o.oval)), (43, some (.int .i64 o.okind)), (44, some (.bool (o.okind == 1)))] ⟨3, [(0, some ⟨true, (OpV.cs o), 0⟩), (1, some ⟨true, [.ints .u8 32 x], 0⟩), (2, some ⟨true, [.ints .u8 32 (List.replicate 32 0)], 0⟩)]⟩) : EvC GwDo cwDo_n9 [(2, some (.ptr ⟨0, 0, 0, 1⟩ 5)), (3, some (.ptr ⟨1, 0, 0, 1⟩ 32)), (4, some (.ptr ⟨2, 0, 0, 1⟩ 32)), (7, some (.slice ⟨1, 0, v7i, 1⟩ v7l v7c)), (8, some (.int .u64 v8)), (9, some (.int .u64 o.oval)), (43, some (.int .i64 o.okind))] ⟨3, [(0, some ⟨true, (OpV.cs o), 0⟩), (1, some ⟨true, [.ints .u8 32 x], 0⟩), (2, some ⟨true, [.ints .u8 32 (List.replicate 32 0)], 0⟩)]⟩ [2, 3, 4, 7, 8, 9, 43, 44] [0, 1, 2] Z := EvC.of (by kernel_rfl) h
def vwDo_13 (o : OpV) (x : List Int) (v7i : Nat) (v7l : Nat) (v7c : Nat) (v8 : Int) : Prop := vwDo_12 o x v7i v7l v7c v8
theorem pwDo_13 (o : OpV) (x : List Int) (hK : Kf (.tuple [.agg [.ints .u8 32 (OpV.next o x)], .int .u64 (OpV.result o x)]) ⟨0, []⟩) (v7i : Nat) (v7l : Nat) (v7c : Nat) (v8 : Int) (h : vwDo_13 o x v7i v7l v7c v8) : SemL Try.prog w0 fp ρi 0 73 [cwDo_n9, cwDo_n19] [(2, some (.ptr ⟨0, 0, 0, 1⟩ 5)), (3, some (.ptr ⟨1, 0, 0, 1⟩ 32)), (4, some (.ptr ⟨2, 0, 0, 1⟩ 32)), (7, some (.slice ⟨1, 0, v7i, 1⟩ v7l v7c)), (8, some (.int .u64 v8)), (9, some (.int .u64 o.oval)), (43, some (.int .i64 o.okind))] ⟨3, [(0, some ⟨true, (OpV.cs o), 0⟩), (1, some ⟨true, [.ints .u8 32 x], 0⟩), (2, some ⟨true, [.ints .u8 32 (List.replicate 32 0)], 0⟩)]⟩ (kkwDo_0 w0 fp ρi Kf o x) :=
  L_regE hGwDo (rwDo_13 o x v7i v7l v7c v8 (fun e H => SemL Try.prog w0 fp ρi 0 73 [cwDo_n19] e H (kkwDo_0 w0 fp ρi Kf o x)) (pwDo_12 o x hK v7i v7l v7c v8 h))
def vwDo_14 (o : OpV) (x : List Int) (v7i : Nat) (v7l : Nat) (v7c : Nat) (v8 : Int) : Prop := vwDo_13 o x v7i v7l v7c v8
theorem pwDo_14 (o : OpV) (x : List Int) (hK : Kf (.tuple [.agg [.ints .u8 32 (OpV.next o x)], .int .u64 (OpV.result o x)]) ⟨0, []⟩) (v7i : Nat) (v7l : Nat) (v7c : Nat) (v8 : Int) (h : vwDo_14 o x v7i v7l v7c v8) : SemL Try.prog w0 fp ρi 0 73 [cwDo_n20, (.seq cwDo_n21 (.seq cwDo_n22 .ret))] [(2, some (.ptr ⟨0, 0, 0, 1⟩ 5)), (3, some (.ptr ⟨1, 0, 0, 1⟩ 32)), (4, some (.ptr ⟨2, 0, 0, 1⟩ 32)), (7, some (.slice ⟨1, 0, v7i, 1⟩ v7l v7c)), (8, some (.int .u64 v8)), (9, some (.int .u64 o.oval)), (43, some (.int .i64 o.okind))] ⟨3, [(0, some ⟨true, (OpV.cs o), 0⟩), (1, some ⟨true, [.ints .u8 32 x], 0⟩), (2, some ⟨true, [.ints .u8 32 (List.replicate 32 0)], 0⟩)]⟩ (fnK RwDo 0 Kf) :=
  L_block (L_seq (pwDo_13 o x hK v7i v7l v7c v8 h))
theorem rwDo_15 (o : OpV) (x : List Int) (v7i : Nat) (v7l : Nat) (v7c : Nat) (v8 : Int) (Z : Env → Heap → Prop) (h : Z [(2, some (.ptr ⟨0, 0, 0, 1⟩ 5)), (3, some (.ptr ⟨1, 0, 0, 1⟩ 32)), (4, some (.ptr ⟨2, 0, 0, 1⟩ 32)), (7, some (.slice ⟨1, 0, v7i, 1⟩ v7l v7c)), (8, some (.int .u64 v8)), (9, some (.int .u64 o.oval)), (43, some (.int .i64 o.okind))] ⟨3, [(0, some ⟨true, (OpV.cs o), 0⟩), (1, some ⟨true, [.ints .u8 32 x], 0⟩), (2, some ⟨true, [.ints .u8 32 (List.replicate 32 0)], 0⟩)]⟩) : EvC GwDo cwDo_n8 [(2, some (.ptr ⟨0, 0, 0, 1⟩ 5)), (3, some (.ptr ⟨1, 0, 0, 1⟩ 32)), (4, some (.ptr ⟨2, 0, 0, 1⟩ 32)), (7, some (.slice ⟨1, 0, v7i, 1⟩ v7l v7c)), (8, some (.int .u64 v8)), (9, some (.int .u64 o.oval))] ⟨3, [(0, some ⟨true, (OpV.cs o), 0⟩), (1, some ⟨true, [.ints .u8 32 x], 0⟩), (2, some ⟨true, [.ints .u8 32 (List.replicate 32 0)], 0⟩)]⟩ [2, 3, 4, 7, 8, 9, 43] [0, 1, 2] Z := EvC.of (by kernel_rfl) h
def vwDo_15 (o : OpV) (x : List Int) (v7i : Nat) (v7l : Nat) (v7c : Nat) (v8 : Int) : Prop := vwDo_14 o x v7i v7l v7c v8
theorem pwDo_15 (o : OpV) (x : List Int) (hK : Kf (.tuple [.agg [.ints .u8 32 (OpV.next o x)], .int .u64 (OpV.result o x)]) ⟨0, []⟩) (v7i : Nat) (v7l : Nat) (v7c : Nat) (v8 : Int) (h : vwDo_15 o x v7i v7l v7c v8) : SemL Try.prog w0 fp ρi 0 73 [cwDo_n8, cwDo_n20, (.seq cwDo_n21 (.seq cwDo_n22 .ret))] [(2, some (.ptr ⟨0, 0, 0, 1⟩ 5)), (3, some (.ptr ⟨1, 0, 0, 1⟩ 32)), (4, some (.ptr ⟨2, 0, 0, 1⟩ 32)), (7, some (.slice ⟨1, 0, v7i, 1⟩ v7l v7c)), (8, some (.int .u64 v8)), (9, some (.int .u64 o.oval))] ⟨3, [(0, some ⟨true, (OpV.cs o), 0⟩), (1, some ⟨true, [.ints .u8 32 x], 0⟩), (2, some ⟨true, [.ints .u8 32 (List.replicate 32 0)], 0⟩)]⟩ (fnK RwDo 0 Kf) :=
  L_regE hGwDo (rwDo_15 o x v7i v7l v7c v8 (fun e H => SemL Try.prog w0 fp ρi 0 73 [cwDo_n20, (.seq cwDo_n21 (.seq cwDo_n22 .ret))] e H (fnK RwDo 0 Kf)) (pwDo_14 o x hK v7i v7l v7c v8 h))
theorem rwDo_16 (o : OpV) (x : List Int) (v7i : Nat) (v7l : Nat) (v7c : Nat) (v8 : Int) (Z : Env → Heap → Prop) (h : Z [(2, some (.ptr ⟨0, 0, 0, 1⟩ 5)), (3, some (.ptr ⟨1, 0, 0, 1⟩ 32)), (4, some (.ptr ⟨2, 0, 0, 1⟩ 32)), (7, some (.slice ⟨1, 0, v7i, 1⟩ v7l v7c)), (8, some (.int .u64 v8)), (9, some (.int .u64 o.oval))] ⟨3, [(0, some ⟨true, (OpV.cs o), 0⟩), (1, some ⟨true, [.ints .u8 32 x], 0⟩), (2, some ⟨true, [.ints .u8 32 (List.replicate 32 0)], 0⟩)]⟩) : EvC GwDo cwDo_n7 [(2, some (.ptr ⟨0, 0, 0, 1⟩ 5)), (3, some (.ptr ⟨1, 0, 0, 1⟩ 32)), (4, some (.ptr ⟨2, 0, 0, 1⟩ 32)), (7, some (.slice ⟨1, 0, v7i, 1⟩ v7l v7c)), (8, some (.int .u64 v8))] ⟨3, [(0, some ⟨true, (OpV.cs o), 0⟩), (1, some ⟨true, [.ints .u8 32 x], 0⟩), (2, some ⟨true, [.ints .u8 32 (List.replicate 32 0)], 0⟩)]⟩ [2, 3, 4, 7, 8, 9] [0, 1, 2] Z := EvC.of (by kernel_rfl) h
def vwDo_16 (o : OpV) (x : List Int) (v7i : Nat) (v7l : Nat) (v7c : Nat) (v8 : Int) : Prop := vwDo_15 o x v7i v7l v7c v8
theorem pwDo_16 (o : OpV) (x : List Int) (hK : Kf (.tuple [.agg [.ints .u8 32 (OpV.next o x)], .int .u64 (OpV.result o x)]) ⟨0, []⟩) (v7i : Nat) (v7l : Nat) (v7c : Nat) (v8 : Int) (h : vwDo_16 o x v7i v7l v7c v8) : SemL Try.prog w0 fp ρi 0 73 [cwDo_n7, (.seq (.seq cwDo_n8 cwDo_n20) (.seq cwDo_n21 (.seq cwDo_n22 .ret)))] [(2, some (.ptr ⟨0, 0, 0, 1⟩ 5)), (3, some (.ptr ⟨1, 0, 0, 1⟩ 32)), (4, some (.ptr ⟨2, 0, 0, 1⟩ 32)), (7, some (.slice ⟨1, 0, v7i, 1⟩ v7l v7c)), (8, some (.int .u64 v8))] ⟨3, [(0, some ⟨true, (OpV.cs o), 0⟩), (1, some ⟨true, [.ints .u8 32 x], 0⟩), (2, some ⟨true, [.ints .u8 32 (List.replicate 32 0)], 0⟩)]⟩ (fnK RwDo 0 Kf) :=
  L_regE hGwDo (rwDo_16 o x v7i v7l v7c v8 (fun e H => SemL Try.prog w0 fp ρi 0 73 [(.seq (.seq cwDo_n8 cwDo_n20) (.seq cwDo_n21 (.seq cwDo_n22 .ret)))] e H (fnK RwDo 0 Kf)) (L_seq (L_seq (pwDo_15 o x hK v7i v7l v7c v8 h))))
theorem rwDo_17 (o : OpV) (x : List Int) (v7i : Nat) (v7l : Nat) (v7c : Nat) (Z : Env → Heap → Prop) (h : (((v7i + v7l) ≤ 32)) ∧ ((v7l = v7l)) ∧ ((List.length (List.take v7l (List.drop v7i x)) = v7l ∧ v7l ≤ v7c ∧ v7l ≤ 1000000000 ∧ Byt (List.take v7l (List.drop v7i x)))) ∧ Z [(2, some (.ptr ⟨0, 0, 0, 1⟩ 5)), (3, some (.ptr ⟨1, 0, 0, 1⟩ 32)), (4, some (.ptr ⟨2, 0, 0, 1⟩ 32)), (7, some (.slice ⟨1, 0, v7i, 1⟩ v7l v7c)), (8, some (.int .u64 (readB (List.take 8 (List.take v7l (List.drop v7i x))))))] ⟨3, [(0, some ⟨true, (OpV.cs o), 0⟩), (1, some ⟨true, [.ints .u8 32 x], 0⟩), (2, some ⟨true, [.ints .u8 32 (List.replicate 32 0)], 0⟩)]⟩) : EvC GwDo cwDo_n6 [(2, some (.ptr ⟨0, 0, 0, 1⟩ 5)), (3, some (.ptr ⟨1, 0, 0, 1⟩ 32)), (4, some (.ptr ⟨2, 0, 0, 1⟩ 32)), (7, some (.slice ⟨1, 0, v7i, 1⟩ v7l v7c))] ⟨3, [(0, some ⟨true, (OpV.cs o), 0⟩), (1, some ⟨true, [.ints .u8 32 x], 0⟩), (2, some ⟨true, [.ints .u8 32 (List.replicate 32 0)], 0⟩)]⟩ [2, 3, 4, 7, 8] [0, 1, 2] Z := EvC.of (by kernel_rfl) h
def vwDo_17 (o : OpV) (x : List Int) (v7i : Nat) (v7l : Nat) (v7c : Nat) : Prop := (((v7i + v7l) ≤ 32)) ∧ (((List.length (List.take v7l (List.drop v7i x)) = v7l ∧ v7l ≤ v7c ∧ v7l ≤ 1000000000 ∧ Byt (List.take v7l (List.drop v7i x)))) ∧ (∀ v8 : Int, v8 = (readB (List.take 8 (List.take v7l (List.drop v7i x)))) → vwDo_16 o x v7i v7l v7c v8))
theorem pwDo_17 (o : OpV) (x : List Int) (hK : Kf (.tuple [.agg [.ints .u8 32 (OpV.next o x)], .int .u64 (OpV.result o x)]) ⟨0, []⟩) (v7i : Nat) (v7l : Nat) (v7c : Nat) (h : vwDo_17 o x v7i v7l v7c) : SemL Try.prog w0 fp ρi 0 73 [cwDo_n6, (.seq cwDo_n7 (.seq (.seq cwDo_n8 cwDo_n20) (.seq cwDo_n21 (.seq cwDo_n22 .ret))))] [(2, some (.ptr ⟨0, 0, 0, 1⟩ 5)), (3, some (.ptr ⟨1, 0, 0, 1⟩ 32)), (4, some (.ptr ⟨2, 0, 0, 1⟩ 32)), (7, some (.slice ⟨1, 0, v7i, 1⟩ v7l v7c))] ⟨3, [(0, some ⟨true, (OpV.cs o), 0⟩), (1, some ⟨true, [.ints .u8 32 x], 0⟩), (2, some ⟨true, [.ints .u8 32 (List.replicate 32 0)], 0⟩)]⟩ (fnK RwDo 0 Kf) :=
  L_regE hGwDo (rwDo_17 o x v7i v7l v7c (fun e H => SemL Try.prog w0 fp ρi 0 73 [(.seq cwDo_n7 (.seq (.seq cwDo_n8 cwDo_n20) (.seq cwDo_n21 (.seq cwDo_n22 .ret))))] e H (fnK RwDo 0 Kf)) ⟨h.1, ⟨rfl, ⟨h.2.1, (L_seq (pwDo_16 o x hK v7i v7l v7c (readB (List.take 8 (List.take v7l (List.drop v7i x)))) (h.2.2 (readB (List.take 8 (List.take v7l (List.drop v7i x)))) rfl)))⟩⟩⟩)
theorem rwDo_18 (o : OpV) (x : List Int) (v6 : Int) (Z : Env → Heap → Prop) (h : ((0 ≤ (IntKind.i64.wrap (v6 + o.on)))) ∧ (((IntKind.i64.wrap (v6 + o.on)) ≤ 32)) ∧ ((0 ≤ v6)) ∧ ((v6 ≤ (((Int.toNat (IntKind.i64.wrap (v6 + o.on))) : Nat) : Int))) ∧ Z [(2, some (.ptr ⟨0, 0, 0, 1⟩ 5)), (3, some (.ptr ⟨1, 0, 0, 1⟩ 32)), (4, some (.ptr ⟨2, 0, 0, 1⟩ 32)), (7, some (.slice ⟨1, 0, (0 + (if 32 = (Int.toNat v6) then 0 else (Int.toNat v6))), 1⟩ ((Int.toNat (IntKind.i64.wrap (v6 + o.on))) - (Int.toNat v6)) (32 - (Int.toNat v6))))] ⟨3, [(0, some ⟨true, (OpV.cs o), 0⟩), (1, some ⟨true, [.ints .u8 32 x], 0⟩), (2, some ⟨true, [.ints .u8 32 (List.replicate 32 0)], 0⟩)]⟩) : EvC GwDo cwDo_n5 [(2, some (.ptr ⟨0, 0, 0, 1⟩ 5)), (3, some (.ptr ⟨1, 0, 0, 1⟩ 32)), (4, some (.ptr ⟨2, 0, 0, 1⟩ 32)), (6, some (.int .i64 v6))] ⟨3, [(0, some ⟨true, (OpV.cs o), 0⟩), (1, some ⟨true, [.ints .u8 32 x], 0⟩), (2, some ⟨true, [.ints .u8 32 (List.replicate 32 0)], 0⟩)]⟩ [2, 3, 4, 7] [0, 1, 2] Z := EvC.of (by kernel_rfl) h
def vwDo_18 (o : OpV) (x : List Int) (v6 : Int) : Prop := ((0 ≤ (IntKind.i64.wrap (v6 + o.on)))) ∧ ((((IntKind.i64.wrap (v6 + o.on)) ≤ 32)) ∧ (((0 ≤ v6)) ∧ (((v6 ≤ (((Int.toNat (IntKind.i64.wrap (v6 + o.on))) : Nat) : Int))) ∧ (∀ v7i : Nat, v7i = (0 + (if 32 = (Int.toNat v6) then 0 else (Int.toNat v6))) → ∀ v7l : Nat, v7l = ((Int.toNat (IntKind.i64.wrap (v6 + o.on))) - (Int.toNat v6)) → ∀ v7c : Nat, v7c = (32 - (Int.toNat v6)) → vwDo_17 o x v7i v7l v7c))))
theorem pwDo_18 (o : OpV) (x : List Int) (hK : Kf (.tuple [.agg [.ints .u8 32 (OpV.next o x)], .int .u64 (OpV.result o x)]) ⟨0, []⟩) (v6 : Int) (h : vwDo_18 o x v6) : SemL Try.prog w0 fp ρi 0 73 [cwDo_n5, (.seq cwDo_n6 (.seq cwDo_n7 (.seq (.seq cwDo_n8 cwDo_n20) (.seq cwDo_n21 (.seq cwDo_n22 .ret)))))] [(2, some (.ptr ⟨0, 0, 0, 1⟩ 5)), (3, some (.ptr ⟨1, 0, 0, 1⟩ 32)), (4, some (.ptr ⟨2, 0, 0, 1⟩ 32)), (6, some (.int .i64 v6))] ⟨3, [(0, some ⟨true, (OpV.cs o), 0⟩), (1, some ⟨true, [.ints .u8 32 x], 0⟩), (2, some ⟨true, [.ints .u8 32 (List.replicate 32 0)], 0⟩)]⟩ (fnK RwDo 0 Kf) :=
  L_regE hGwDo (rwDo_18 o x v6 (fun e H => SemL Try.prog w0 fp ρi 0 73 [(.seq cwDo_n6 (.seq cwDo_n7 (.seq (.seq cwDo_n8 cwDo_n20) (.seq cwDo_n21 (.seq cwDo_n22 .ret)))))] e H (fnK RwDo 0 Kf)) ⟨h.1, ⟨h.2.1, ⟨h.2.2.1, ⟨h.2.2.2.1, (L_seq (pwDo_17 o x hK (0 + (if 32 = (Int.toNat v6) then 0 else (Int.toNat v6))) ((Int.toNat (IntKind.i64.wrap (v6 + o.on))) - (Int.toNat v6)) (32 - (Int.toNat v6)) (((h.2.2.2.2 (0 + (if 32 = (Int.toNat v6) then 0 else (Int.toNat v6))) rfl) ((Int.toNat (IntKind.i64.wrap (v6 + o.on))) - (Int.toNat v6)) rfl) (32 - (Int.toNat v6)) rfl)))⟩⟩⟩⟩)
theorem rwDo_19 (o : OpV) (x : List Int) (Z : Env → Heap → Prop) (h : Z [(2, some (.ptr ⟨0, 0, 0, 1⟩ 5)), (3, some (.ptr ⟨1, 0, 0, 1⟩ 32)), (4, some (.ptr ⟨2, 0, 0, 1⟩ 32)), (6, some (.int .i64 (if (IntKind.i64.wrap (32 - o.on)) < (iand .i64 o.oat 31) then (IntKind.i64.wrap (32 - o.on)) else (iand .i64 o.oat 31))))] ⟨3, [(0, some ⟨true, (OpV.cs o), 0⟩), (1, some ⟨true, [.ints .u8 32 x], 0⟩), (2, some ⟨true, [.ints .u8 32 (List.replicate 32 0)], 0⟩)]⟩) : EvC GwDo cwDo_n4 [(2, some (.ptr ⟨0, 0, 0, 1⟩ 5)), (3, some (.ptr ⟨1, 0, 0, 1⟩ 32)), (4, some (.ptr ⟨2, 0, 0, 1⟩ 32))] ⟨3, [(0, some ⟨true, (OpV.cs o), 0⟩), (1, some ⟨true, [.ints .u8 32 x], 0⟩), (2, some ⟨true, [.ints .u8 32 (List.replicate 32 0)], 0⟩)]⟩ [2, 3, 4, 6] [0, 1, 2] Z := EvC.of (by kernel_rfl) h
def vwDo_19 (o : OpV) (x : List Int) : Prop := ∀ v6 : Int, v6 = (if (IntKind.i64.wrap (32 - o.on)) < (iand .i64 o.oat 31) then (IntKind.i64.wrap (32 - o.on)) else (iand .i64 o.oat 31)) → vwDo_18 o x v6
theorem pwDo_19 (o : OpV) (x : List Int) (hK : Kf (.tuple [.agg [.ints .u8 32 (OpV.next o x)], .int .u64 (OpV.result o x)]) ⟨0, []⟩) (h : vwDo_19 o x) : SemL Try.prog w0 fp ρi 0 73 [cwDo_n4, (.seq cwDo_n5 (.seq cwDo_n6 (.seq cwDo_n7 (.seq (.seq cwDo_n8 cwDo_n20) (.seq cwDo_n21 (.seq cwDo_n22 .ret))))))] [(2, some (.ptr ⟨0, 0, 0, 1⟩ 5)), (3, some (.ptr ⟨1, 0, 0, 1⟩ 32)), (4, some (.ptr ⟨2, 0, 0, 1⟩ 32))] ⟨3, [(0, some ⟨true, (OpV.cs o), 0⟩), (1, some ⟨true, [.ints .u8 32 x], 0⟩), (2, some ⟨true, [.ints .u8 32 (List.replicate 32 0)], 0⟩)]⟩ (fnK RwDo 0 Kf) :=
  L_regE hGwDo (rwDo_19 o x (fun e H => SemL Try.prog w0 fp ρi 0 73 [(.seq cwDo_n5 (.seq cwDo_n6 (.seq cwDo_n7 (.seq (.seq cwDo_n8 cwDo_n20) (.seq cwDo_n21 (.seq cwDo_n22 .ret))))))] e H (fnK RwDo 0 Kf)) (L_seq (pwDo_18 o x hK (if (IntKind.i64.wrap (32 - o.on)) < (iand .i64 o.oat 31) then (IntKind.i64.wrap (32 - o.on)) else (iand .i64 o.oat 31)) (h (if (IntKind.i64.wrap (32 - o.on)) < (iand .i64 o.oat 31) then (IntKind.i64.wrap (32 - o.on)) else (iand .i64 o.oat 31)) rfl))))
def vwDo_20 (o : OpV) (x : List Int) : Prop := (((!(sizeB o.on)) || ((!(chgB o.okind)) && (o.okind != 1))) = true → (vwDo_0 o x)) ∧ (((!(sizeB o.on)) || ((!(chgB o.okind)) && (o.okind != 1))) = false → (vwDo_19 o x))
theorem pwDo_20 (o : OpV) (x : List Int) (hK : Kf (.tuple [.agg [.ints .u8 32 (OpV.next o x)], .int .u64 (OpV.result o x)]) ⟨0, []⟩) (h : vwDo_20 o x) : SemL Try.prog w0 fp ρi 0 73 [cwDo_n3, (.seq cwDo_n4 (.seq cwDo_n5 (.seq cwDo_n6 (.seq cwDo_n7 (.seq (.seq cwDo_n8 cwDo_n20) (.seq cwDo_n21 (.seq cwDo_n22 .ret)))))))] [(2, some (.ptr ⟨0, 0, 0, 1⟩ 5)), (3, some (.ptr ⟨1, 0, 0, 1⟩ 32)), (4, some (.ptr ⟨2, 0, 0, 1⟩ 32)), (23, some (.bool ((!(sizeB o.on)) || ((!(chgB o.okind)) && (o.okind != 1)))))] ⟨3, [(0, some ⟨true, (OpV.cs o), 0⟩), (1, some ⟨true, [.ints .u8 32 x], 0⟩), (2, some ⟨true, [.ints .u8 32 (List.replicate 32 0)], 0⟩)]⟩ (fnK RwDo 0 Kf) :=
  L_cond (q := ((!(sizeB o.on)) || ((!(chgB o.okind)) && (o.okind != 1)))) (by kernel_rfl) (fun hq => (L_seq (L_pick (e' := [(3, some (.ptr ⟨1, 0, 0, 1⟩ 32)), (4, some (.ptr ⟨2, 0, 0, 1⟩ 32))]) (H' := ⟨3, [(1, some ⟨true, [.ints .u8 32 x], 0⟩), (2, some ⟨true, [.ints .u8 32 (List.replicate 32 0)], 0⟩)]⟩) [3, 4] [1, 2] (by kernel_rfl) (by kernel_rfl) (pwDo_0 o x hK (h.1 hq))))) (fun hq => (L_skip (L_pick (e' := [(2, some (.ptr ⟨0, 0, 0, 1⟩ 5)), (3, some (.ptr ⟨1, 0, 0, 1⟩ 32)), (4, some (.ptr ⟨2, 0, 0, 1⟩ 32))]) (H' := ⟨3, [(0, some ⟨true, (OpV.cs o), 0⟩), (1, some ⟨true, [.ints .u8 32 x], 0⟩), (2, some ⟨true, [.ints .u8 32 (List.replicate 32 0)], 0⟩)]⟩) [2, 3, 4] [0, 1, 2] (by kernel_rfl) (by kernel_rfl) (L_seq (pwDo_19 o x hK (h.2 hq))))))
theorem rwDo_21 (o : OpV) (x : List Int) (Z : Env → Heap → Prop) (h : (True) ∧ ∃ qq : Bool, ((!(sizeB o.on)) = false → (True) ∧ ∃ qq'1 : Bool, ((!(chgB o.okind)) = true → (keeps ⟨3, [(0, some ⟨true, (OpV.cs o), 0⟩), (1, some ⟨true, [.ints .u8 32 x], 0⟩), (2, some ⟨true, [.ints .u8 32 (List.replicate 32 0)], 0⟩)]⟩ ⟨3, [(0, some ⟨true, (OpV.cs o), 0⟩), (1, some ⟨true, [.ints .u8 32 x], 0⟩), (2, some ⟨true, [.ints .u8 32 (List.replicate 32 0)], 0⟩)]⟩ [(0, some ⟨true, (OpV.cs o), 0⟩), (1, some ⟨true, [.ints .u8 32 x], 0⟩), (2, some ⟨true, [.ints .u8 32 (List.replicate 32 0)], 0⟩)]) ∧ (o.okind != 1) = qq'1) ∧ ((!(chgB o.okind)) = false → false = qq'1) ∧ (keeps ⟨3, [(0, some ⟨true, (OpV.cs o), 0⟩), (1, some ⟨true, [.ints .u8 32 x], 0⟩), (2, some ⟨true, [.ints .u8 32 (List.replicate 32 0)], 0⟩)]⟩ ⟨3, [(0, some ⟨true, (OpV.cs o), 0⟩), (1, some ⟨true, [.ints .u8 32 x], 0⟩), (2, some ⟨true, [.ints .u8 32 (List.replicate 32 0)], 0⟩)]⟩ [(0, some ⟨true, (OpV.cs o), 0⟩), (1, some ⟨true, [.ints .u8 32 x], 0⟩), (2, some ⟨true, [.ints .u8 32 (List.replicate 32 0)], 0⟩)]) ∧ qq'1 = qq) ∧ ((!(sizeB o.on)) = true → true = qq) ∧ Z [(2, some (.ptr ⟨0, 0, 0, 1⟩ 5)), (3, some (.ptr ⟨1, 0, 0, 1⟩ 32)), (4, some (.ptr ⟨2, 0, 0, 1⟩ 32)), (23, some (.bool qq))] ⟨3, [(0, some ⟨true, (OpV.cs o), 0⟩), (1, some ⟨true, [.ints .u8 32 x], 0⟩), (2, some ⟨true, [.ints .u8 32 (List.replicate 32 0)], 0⟩)]⟩) : EvC GwDo cwDo_n1 [(2, some (.ptr ⟨0, 0, 0, 1⟩ 5)), (3, some (.ptr ⟨1, 0, 0, 1⟩ 32)), (4, some (.ptr ⟨2, 0, 0, 1⟩ 32))] ⟨3, [(0, some ⟨true, (OpV.cs o), 0⟩), (1, some ⟨true, [.ints .u8 32 x], 0⟩), (2, some ⟨true, [.ints .u8 32 (List.replicate 32 0)], 0⟩)]⟩ [2, 3, 4, 23] [0, 1, 2] Z := EvC.of (by kernel_rfl) h
def vwDo_21 (o : OpV) (x : List Int) : Prop := vwDo_20 o x
theorem pwDo_21 (o : OpV) (x : List Int) (hK : Kf (.tuple [.agg [.ints .u8 32 (OpV.next o x)], .int .u64 (OpV.result o x)]) ⟨0, []⟩) (h : vwDo_21 o x) : SemL Try.prog w0 fp ρi 0 73 [cwDo_n1, cwDo_n3, (.seq cwDo_n4 (.seq cwDo_n5 (.seq cwDo_n6 (.seq cwDo_n7 (.seq (.seq cwDo_n8 cwDo_n20) (.seq cwDo_n21 (.seq cwDo_n22 .ret)))))))] [(2, some (.ptr ⟨0, 0, 0, 1⟩ 5)), (3, some (.ptr ⟨1, 0, 0, 1⟩ 32)), (4, some (.ptr ⟨2, 0, 0, 1⟩ 32))] ⟨3, [(0, some ⟨true, (OpV.cs o), 0⟩), (1, some ⟨true, [.ints .u8 32 x], 0⟩), (2, some ⟨true, [.ints .u8 32 (List.replicate 32 0)], 0⟩)]⟩ (fnK RwDo 0 Kf) :=
  L_regE hGwDo (rwDo_21 o x (fun e H => SemL Try.prog w0 fp ρi 0 73 [cwDo_n3, (.seq cwDo_n4 (.seq cwDo_n5 (.seq cwDo_n6 (.seq cwDo_n7 (.seq (.seq cwDo_n8 cwDo_n20) (.seq cwDo_n21 (.seq cwDo_n22 .ret)))))))] e H (fnK RwDo 0 Kf)) ⟨True.intro, ⟨((!(sizeB o.on)) || ((!(chgB o.okind)) && (o.okind != 1))), fun hc_qq => ⟨True.intro, ⟨((!(chgB o.okind)) && (o.okind != 1)), fun hc_qq_1 => ⟨(keeps_refl _), (qa1 hc_qq_1)⟩, fun hc_qq_1 => qa2 hc_qq_1, ⟨(keeps_refl _), (qo1 hc_qq)⟩⟩⟩, fun hc_qq => qo2 hc_qq, (pwDo_20 o x hK h)⟩⟩)
theorem rwDo_22 (o : OpV) (x : List Int) (Z : Env → Heap → Prop) (h : Z [(2, some (.ptr ⟨0, 0, 0, 1⟩ 5)), (3, some (.ptr ⟨1, 0, 0, 1⟩ 32)), (4, some (.ptr ⟨2, 0, 0, 1⟩ 32))] ⟨3, [(0, some ⟨true, (OpV.cs o), 0⟩), (1, some ⟨true, [.ints .u8 32 x], 0⟩), (2, some ⟨true, [.ints .u8 32 (List.replicate 32 0)], 0⟩)]⟩) : EvC GwDo cwDo_n0 [(0, some (.agg (OpV.cs o))), (1, some (.agg [.ints .u8 32 x]))] ⟨0, []⟩ [2, 3, 4] [0, 1, 2] Z := EvC.of (by kernel_rfl) h
def vwDo_22 (o : OpV) (x : List Int) : Prop := vwDo_21 o x
theorem pwDo_22 (o : OpV) (x : List Int) (hK : Kf (.tuple [.agg [.ints .u8 32 (OpV.next o x)], .int .u64 (OpV.result o x)]) ⟨0, []⟩) (h : vwDo_22 o x) : SemL Try.prog w0 fp ρi 0 73 [cwDo_n0, (.seq (.seq cwDo_n1 cwDo_n3) (.seq cwDo_n4 (.seq cwDo_n5 (.seq cwDo_n6 (.seq cwDo_n7 (.seq (.seq cwDo_n8 cwDo_n20) (.seq cwDo_n21 (.seq cwDo_n22 .ret))))))))] [(0, some (.agg (OpV.cs o))), (1, some (.agg [.ints .u8 32 x]))] ⟨0, []⟩ (fnK RwDo 0 Kf) :=
  L_regE hGwDo (rwDo_22 o x (fun e H => SemL Try.prog w0 fp ρi 0 73 [(.seq (.seq cwDo_n1 cwDo_n3) (.seq cwDo_n4 (.seq cwDo_n5 (.seq cwDo_n6 (.seq cwDo_n7 (.seq (.seq cwDo_n8 cwDo_n20) (.seq cwDo_n21 (.seq cwDo_n22 .ret))))))))] e H (fnK RwDo 0 Kf)) (L_seq (L_seq (pwDo_21 o x hK h))))
def vcwDo (o : OpV) (x : List Int) : Prop := vwDo_22 o x
theorem wwDo (o : OpV) (x : List Int) (hK : Kf (.tuple [.agg [.ints .u8 32 (OpV.next o x)], .int .u64 (OpV.result o x)]) ⟨0, []⟩) (h : vcwDo o x) : SemL Try.prog w0 fp ρi 0 73 [cwDo] [(0, some (.agg (OpV.cs o))), (1, some (.agg [.ints .u8 32 x]))] ⟨0, []⟩ (fnK RwDo 0 Kf) :=
  (L_seq (pwDo_22 o x hK h))
end
theorem okwDo (o : OpV) (x : List Int) (hpre : (OpV.Wf o ∧ LineOk x)) : vcwDo o x := by
  unfold vcwDo vwDo_22 vwDo_21 vwDo_20 vwDo_19 vwDo_18 vwDo_17 vwDo_16 vwDo_15 vwDo_14 vwDo_13 vwDo_12 vwDo_11 vwDo_10 vwDo_9 vwDo_8 vwDo_7 vwDo_6 vwDo_5 vwDo_4 vwDo_3 vwDo_2 vwDo_1 vwDo_0
  obtain ⟨⟨w1, w2, w3, w4, w5⟩, hx, hb⟩ := hpre
  have hg : (!sizeB o.on || !chgB o.okind && o.okind != 1) = !o.good := by
    unfold OpV.good
    rw [show (o.okind != 1) = !(o.okind == 1) from rfl]
    cases sizeB o.on <;> cases chgB o.okind <;> cases (o.okind == 1) <;> rfl
  rw [hg]
  refine ⟨fun h => OpV.next_bad (not_t h), fun h => ?_⟩
  have h := not_f h
  obtain ⟨hs, hk⟩ := OpV.good_true h
  obtain ⟨n1, n2⟩ := OpV.next_good (xs := x) h
  have hd := doAt_le (at_ := o.oat) hs
  have hp : o.place = doAt o.oat o.on := rfl
  rw [← hp] at hd
  rw [n1, n2]
  have m64 := OpV.min64 hs
  intro v6 hv6
  rw [iand_i64_31, wi64] at hv6
  have e6 : v6 = (o.place : Int) := by split at hv6 <;> omega
  subst e6
  have e7 : IntKind.i64.wrap ((o.place : Int) + o.on) = o.place + o.on := by rw [wi64]; omega
  rw [e7]
  refine ⟨by omega, by omega, by omega, by omega, ?_⟩
  intro i hi l hl c hc
  have ei : i = o.place := by split at hi <;> omega
  have el : l = o.on.toNat := by omega
  subst ei
  subst el
  have hlen : (List.take o.on.toNat (List.drop o.place x)).length = o.on.toNat := by rw [List.length_take, List.length_drop]; omega
  have hbx : Byt x := hb
  refine ⟨by omega, ⟨hlen, by omega, by omega, (hbx.drop _).take _⟩, ?_⟩
  intro v8 hv8
  have e8 : v8 = o.numAt o.place x := by rw [hv8, List.take_take, show min 8 o.on.toNat = o.on.toNat by omega]; rfl
  have hr := OpV.numAt_range (k := o.place) hs hbx
  rw [← e8] at hr
  have hl0 : ∀ v, (List.take (min (0 + (min o.on 64).toNat) o.on.toNat) (List.take (0 + (min o.on 64).toNat) (numB v (min o.on 64).toNat))).length = min (0 + (min o.on 64).toNat) o.on.toNat := fun v => by
    rw [List.length_take, List.length_take, numB_length]; omega
  simp only [beq_iff_eq, beq_eq_false_iff_ne, bne_iff_ne, bne_eq_false_iff_eq, ne_eq]
  refine ⟨fun k1 => ⟨(OpV.nextAt_none (OpV.put_load k1)).symm, e8⟩, fun k1 => ⟨fun k3 => ?_, fun k3 => ⟨fun k4 => ?_, fun k4 => ?_⟩⟩⟩
  · rw [iand_mask hs w5.1 w5.2, e8]
    have hps := OpV.put_swap (k := o.place) (xs := x) k3
    refine ⟨fun hne => ⟨?_, rfl⟩, fun heq => ⟨⟨rfl, by omega, w4.1, w4.2⟩, fun c hc => ⟨by omega, by omega, hx, hl0 _, fun h1 hh1 => ⟨?_, rfl⟩⟩⟩⟩
    · rw [if_neg hne] at hps
      exact (OpV.nextAt_none hps).symm
    · rw [if_pos heq] at hps
      rw [hh1, OpV.laid_eq hs, OpV.nextAt_some hps]
  · intro v9 hv9
    refine ⟨⟨rfl, by omega, by omega, by omega⟩, fun c hc => ⟨by omega, by omega, hx, hl0 _, fun h1 hh1 => ⟨?_, e8⟩⟩⟩
    rw [hh1, OpV.laid_eq hs, OpV.nextAt_some (OpV.put_add k4), hv9, e8]
  · refine ⟨⟨rfl, by omega, w4.1, w4.2⟩, fun c hc => ⟨by omega, by omega, hx, hl0 _, fun h1 hh1 => ⟨?_, e8⟩⟩⟩
    rw [hh1, OpV.laid_eq hs, OpV.nextAt_some (OpV.put_else k1 k3 k4)]
theorem swDo : Sound Try.prog 60 (pureS PwDo) := by
  refine fn_soundA cwDo_fits ?_
  intro args H K h
  obtain ⟨pre, v, hP, hpre, rfl, hK⟩ := pureS_inv h
  unfold PwDo at hP
  split at hP
  · obtain ⟨hb, hP⟩ := bif_some hP
    have h0 := hb
    obtain rfl := Nat.eq_of_beq_eq_true h0
    cases hP
    exact ⟨rfl, fun w0 fp ρi => wwDo (OpV.mk _ _ _ _ _) _ hK (okwDo (OpV.mk _ _ _ _ _) _ hpre)⟩
  · cases hP
end Go.Proofs.Ytlmcdbgcbmjilaa
