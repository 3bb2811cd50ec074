/- Two parts of the proof. -/
import Derived.Test.YtlmcdbgcbmjilaaSxRegion4
import Derived.Test.YtlmcdbgcbmjilaaSxOpW
import Derived.Test.YtlmcdbgcbmjilaaSxRegN2
import Derived.KernelRfl
set_option linter.unusedVariables false
set_option linter.unusedSimpArgs false
namespace Go.Sx
namespace PlanV
/-- What is wrong with an operation (6: a fence; 5: a flush). -/
def opCode (p : PlanV) (o : OpV) : Int :=
  if p.right = true then (if 1 ≤ o.okind ∧ o.okind ≤ 6 then (if o.okind = 6 then 0 else p.codeOf o.oat (if o.okind = 5 then 1 else o.on)) else 1) else 4
def opB (p : PlanV) (o : OpV) : Bool := p.opCode o == 0 && !(o.okind == 6)
def opLine (p : PlanV) (o : OpV) : Int := if p.opB o = true then o.oat / 32 else 0
theorem opc4 {p : PlanV} {o : OpV} (h : p.right = false) : p.opCode o = 4 := by unfold opCode; rw [if_neg (by rw [h]; decide)]
theorem opc1 {p : PlanV} {o : OpV} (h : p.right = true) (hk : ¬ (1 ≤ o.okind ∧ o.okind ≤ 6)) : p.opCode o = 1 := by unfold opCode; rw [if_pos h, if_neg hk]
theorem opc0 {p : PlanV} {o : OpV} (h : p.right = true) (hk : o.okind = 6) : p.opCode o = 0 := by unfold opCode; rw [if_pos h, if_pos (by omega), if_pos hk]
theorem opcF {p : PlanV} {o : OpV} (h : p.right = true) (hk : o.okind = 5) : p.opCode o = p.codeOf o.oat 1 := by unfold opCode; rw [if_pos h, if_pos (by omega), if_neg (by omega), if_pos hk]
theorem opcE {p : PlanV} {o : OpV} (h : p.right = true) (h1 : 1 ≤ o.okind) (h2 : o.okind ≤ 4) : p.opCode o = p.codeOf o.oat o.on := by unfold opCode; rw [if_pos h, if_pos (by omega), if_neg (by omega), if_neg (by omega)]
theorem code_zero {p : PlanV} {a n : Int} (h : p.codeOf a n = 0) : 0 ≤ a ∧ a < p.tags := by
  unfold codeOf at h
  split at h
  · split at h
    · split at h
      · assumption
      · cases h
    · cases h
  · cases h
theorem opB_at {p : PlanV} {o : OpV} (h : p.opCode o = 0) (hk : o.okind ≠ 6) : 0 ≤ o.oat ∧ o.oat < p.tags := by
  unfold opCode at h
  split at h
  · split at h
    · try rw [if_neg hk] at h
      exact code_zero h
    · cases h
  · cases h
end PlanV
end Go.Sx

set_option linter.unusedVariables false
set_option linter.unusedSimpArgs false
namespace Go.Proofs.Ytlmcdbgcbmjilaa
open Go.Sx
def PwCheck : PSpec := fun args => match args with
  | [.agg [.one (.int .i64 p_0), .one (.int .i64 p_1), .one (.int .i64 p_2), .one (.int .i64 p_3), .one (.int .i64 p_4), .one (.int .i64 p_5), .one (.int .u64 p_6), .one (.int .i64 p_7), .one (.int .i64 p_8), .one (.int .i64 p_9), .one (.int .i64 p_10), .one (.int .i64 p_11), .one (.int .i64 p_12), .one (.int .i64 p_13), .ints .u8 p_14_n p_14, .ints .u8 p_15_n p_15], .agg [.one (.int .i64 o_0), .one (.int .i64 o_1), .one (.int .i64 o_2), .one (.int .u64 o_3), .one (.int .u64 o_4)]] => bif Nat.beq p_14_n 16 && Nat.beq p_15_n 16 then some ((OpV.Wf (OpV.mk o_0 o_1 o_2 o_3 o_4)), .int .i64 (PlanV.opCode (PlanV.mk p_0 p_1 p_2 p_3 p_4 p_5 p_6 p_7 p_8 p_9 p_10 p_11 p_12 p_13 p_14 p_15) (OpV.mk o_0 o_1 o_2 o_3 o_4))) else none
  | _ => none
def pcwCheck : PCon := ⟨109, PwCheck⟩
def cwCheck_n0 : ACode := .reg (.op (some 2) (.box (.tm 0)) (.op (some 3) (.box (.tm 1)) (.op (some 4) (.mov (.cn (.int .i64 0))) .nil)))
def cwCheck_n1 : ACode := .reg (.op (some 6) (.loadA 46 (.tm 2)) (.op (some 7) (.call 49 [(.tm 6)]) (.op (some 5) (.mov (.tm 7)) .nil)))
def cwCheck_n2 : ACode := .reg (.op (some 8) (.mov (.tm 5)) (.op (some 9) (.bin .neq (.tm 8) (.cn (.int .i64 0))) .nil))
def cwCheck_n3 : ACode := .reg (.op (some 10) (.mov (.tm 5)) (.op (some 4) (.mov (.tm 10)) .nil))
def cwCheck_n4 : ACode := .cond (.tm 9) (.seq cwCheck_n3 .ret) .skip
def cwCheck_n5 : ACode := .reg (.op (some 11) (.fieldAddr (.tm 3) 0 1) (.op (some 12) (.load1 (.tm 11)) .nil))
def cwCheck_n6 : ACode := .reg (.op (some 14) (.bin .eql (.tm 12) (.cn (.int .i64 6))) (.op (some 13) (.mov (.tm 14)) .nil))
def cwCheck_n7 : ACode := .cond (.tm 13) (.exit 1) .skip
def cwCheck_n8 : ACode := .reg (.op (some 16) (.bin .eql (.tm 12) (.cn (.int .i64 5))) (.op (some 15) (.mov (.tm 16)) .nil))
def cwCheck_n9 : ACode := .cond (.tm 15) (.exit 2) .skip
def cwCheck_n10 : ACode := .reg (.op (some 18) (.bin .eql (.tm 12) (.cn (.int .i64 1))) (.op (some 17) (.mov (.tm 18)) .nil))
def cwCheck_n11 : ACode := .reg (.op (some 19) (.bin .eql (.tm 12) (.cn (.int .i64 2))) (.op (some 17) (.mov (.tm 19)) .nil))
def cwCheck_n12 : ACode := .reg (.op (some 20) (.bin .eql (.tm 12) (.cn (.int .i64 3))) (.op (some 17) (.mov (.tm 20)) .nil))
def cwCheck_n13 : ACode := .reg (.op (some 21) (.bin .eql (.tm 12) (.cn (.int .i64 4))) (.op (some 17) (.mov (.tm 21)) .nil))
def cwCheck_n14 : ACode := .cond (.tm 17) .skip cwCheck_n13
def cwCheck_n15 : ACode := .cond (.tm 17) .skip (.seq cwCheck_n12 cwCheck_n14)
def cwCheck_n16 : ACode := .cond (.tm 17) .skip (.seq cwCheck_n11 cwCheck_n15)
def cwCheck_n17 : ACode := .cond (.tm 17) (.exit 3) .skip
def cwCheck_n18 : ACode := .block 1 (.seq (.seq (.seq cwCheck_n6 cwCheck_n7) (.seq (.seq cwCheck_n8 cwCheck_n9) (.seq (.seq cwCheck_n10 cwCheck_n16) cwCheck_n17))) (.exit 0))
def cwCheck_n19 : ACode := .reg (.op (some 4) (.mov (.cn (.int .i64 0))) .nil)
def cwCheck_n20 : ACode := .block 2 (.seq cwCheck_n18 (.seq (.seq cwCheck_n19 .ret) (.exit 0)))
def cwCheck_n21 : ACode := .reg (.op (some 22) (.fieldAddr (.tm 3) 2 1) (.op none (.store1 (.tm 22) (.cn (.int .i64 1))) .nil))
def cwCheck_n22 : ACode := .block 3 (.seq cwCheck_n20 cwCheck_n21)
def cwCheck_n23 : ACode := .reg (.op (some 24) (.loadA 46 (.tm 2)) (.op (some 25) (.fieldAddr (.tm 3) 1 1) (.op (some 26) (.load1 (.tm 25)) (.op (some 27) (.fieldAddr (.tm 3) 2 1) (.op (some 28) (.load1 (.tm 27)) (.op (some 29) (.call 80 [(.tm 24), (.tm 26), (.tm 28)]) (.op (some 23) (.mov (.tm 29)) (.op (some 30) (.extract (.tm 23) 0) (.op (some 31) (.extract (.tm 23) 1) (.op (some 32) (.extract (.tm 23) 2) (.op (some 4) (.mov (.tm 32)) .nil)))))))))))
def cwCheck_n24 : ACode := .reg (.op (some 33) (.mov (.tm 4)) (.op (some 4) (.mov (.tm 33)) .nil))
def cwCheck_n25 : ACode := .block 0 (.seq cwCheck_n22 (.seq (.seq cwCheck_n23 (.seq cwCheck_n24 .ret)) (.exit 0)))
def cwCheck_n26 : ACode := .reg (.op (some 4) (.mov (.cn (.int .i64 1))) .nil)
def cwCheck : ACode := (.seq cwCheck_n0 (.seq (.seq cwCheck_n1 (.seq cwCheck_n2 cwCheck_n4)) (.seq (.seq cwCheck_n5 cwCheck_n25) (.seq cwCheck_n26 .ret))))
def RwCheck : Res := .one (.tm 4)
theorem cwCheck_fits : fnFits Try.prog 109 2 34 cwCheck RwCheck = true := by kernel_rfl
def GwCheck : Calls' := withP [pcpCheck, pcrLineAt] []
theorem hGwCheck : CallOk Try.prog GwCheck := withP_ok ⟨spCheck, srLineAt, trivial⟩ trivial
section
variable {w0 : World} {fp : Nat → Nat → Prop} {ρi : Rho} {Kf : SVal → Heap → Prop}
theorem rwCheck_0 (p : PlanV) (o : OpV) (v5 : Int) (Z : Env → Heap → Prop) (h : Z [(4, some (.int .i64 v5))] ⟨2, []⟩) : EvC GwCheck cwCheck_n3 [(5, some (.int .i64 v5))] ⟨2, []⟩ [4] [] Z := EvC.of (by kernel_rfl) h
theorem rtwCheck_0 (p : PlanV) (o : OpV) (v5 : Int) : RetC RwCheck [(4, some (.int .i64 v5))] ⟨2, []⟩ (.int .i64 v5) := RetC.of (fun Z => by kernel_rfl)
def vwCheck_0 (p : PlanV) (o : OpV) (v5 : Int) : Prop := v5 = (PlanV.opCode p o)
theorem pwCheck_0 (p : PlanV) (o : OpV) (hK : Kf (.int .i64 (PlanV.opCode p o)) ⟨0, []⟩) (v5 : Int) (h : vwCheck_0 p o v5) : SemL Try.prog w0 fp ρi 0 34 [cwCheck_n3, .ret, (.seq (.seq cwCheck_n5 cwCheck_n25) (.seq cwCheck_n26 .ret))] [(5, some (.int .i64 v5))] ⟨2, []⟩ (fnK RwCheck 0 Kf) :=
  L_regE hGwCheck (rwCheck_0 p o v5 (fun e H => SemL Try.prog w0 fp ρi 0 34 [.ret, (.seq (.seq cwCheck_n5 cwCheck_n25) (.seq cwCheck_n26 .ret))] e H (fnK RwCheck 0 Kf)) (L_retE (R := RwCheck) (m := 0) (Kf := Kf) (fun _ _ h => h) (rtwCheck_0 p o v5) (ret_plain rfl (by kernel_rfl) (cg1 (fun (z1 : Int) => (.int .i64 z1 : SVal)) h) hK)))
def kkwCheck_0 (w0 : World) (fp : Nat → Nat → Prop) (ρi : Rho) (Kf : SVal → Heap → Prop) (p : PlanV) (o : OpV) : Cont := blockK 0 (fun e H => SemL Try.prog w0 fp ρi 0 34 [(.seq cwCheck_n26 .ret)] e H (fnK RwCheck 0 Kf)) (fnK RwCheck 0 Kf)
def kkwCheck_1 (w0 : World) (fp : Nat → Nat → Prop) (ρi : Rho) (Kf : SVal → Heap → Prop) (p : PlanV) (o : OpV) : Cont := blockK 3 (fun e H => SemL Try.prog w0 fp ρi 0 34 [(.seq (.seq cwCheck_n23 (.seq cwCheck_n24 .ret)) (.exit 0))] e H (kkwCheck_0 w0 fp ρi Kf p o)) (kkwCheck_0 w0 fp ρi Kf p o)
def kkwCheck_2 (w0 : World) (fp : Nat → Nat → Prop) (ρi : Rho) (Kf : SVal → Heap → Prop) (p : PlanV) (o : OpV) : Cont := blockK 2 (fun e H => SemL Try.prog w0 fp ρi 0 34 [cwCheck_n21] e H (kkwCheck_1 w0 fp ρi Kf p o)) (kkwCheck_1 w0 fp ρi Kf p o)
theorem rwCheck_1 (p : PlanV) (o : OpV) (Z : Env → Heap → Prop) (h : Z [(4, some (.int .i64 0))] ⟨2, []⟩) : EvC GwCheck cwCheck_n19 [] ⟨2, []⟩ [4] [] Z := EvC.of (by kernel_rfl) h
theorem rtwCheck_1 (p : PlanV) (o : OpV) : RetC RwCheck [(4, some (.int .i64 0))] ⟨2, []⟩ (.int .i64 0) := RetC.of (fun Z => by kernel_rfl)
def vwCheck_1 (p : PlanV) (o : OpV) : Prop := 0 = (PlanV.opCode p o)
theorem pwCheck_1 (p : PlanV) (o : OpV) (hK : Kf (.int .i64 (PlanV.opCode p o)) ⟨0, []⟩) (h : vwCheck_1 p o) : SemL Try.prog w0 fp ρi 0 34 [cwCheck_n19, .ret, (.exit 0)] [] ⟨2, []⟩ (kkwCheck_2 w0 fp ρi Kf p o) :=
  L_regE hGwCheck (rwCheck_1 p o (fun e H => SemL Try.prog w0 fp ρi 0 34 [.ret, (.exit 0)] e H (kkwCheck_2 w0 fp ρi Kf p o)) (L_retE (R := RwCheck) (m := 0) (Kf := Kf) (fun _ _ h => h) (rtwCheck_1 p o) (ret_plain rfl (by kernel_rfl) (cg1 (fun (z1 : Int) => (.int .i64 z1 : SVal)) h) hK)))
theorem rwCheck_2 (p : PlanV) (o : OpV) (v4 : Int) (Z : Env → Heap → Prop) (h : Z [(4, some (.int .i64 v4))] ⟨2, []⟩) : EvC GwCheck cwCheck_n24 [(4, some (.int .i64 v4))] ⟨2, []⟩ [4] [] Z := EvC.of (by kernel_rfl) h
theorem rtwCheck_2 (p : PlanV) (o : OpV) (v4 : Int) : RetC RwCheck [(4, some (.int .i64 v4))] ⟨2, []⟩ (.int .i64 v4) := RetC.of (fun Z => by kernel_rfl)
def vwCheck_2 (p : PlanV) (o : OpV) (v4 : Int) : Prop := v4 = (PlanV.opCode p o)
theorem pwCheck_2 (p : PlanV) (o : OpV) (hK : Kf (.int .i64 (PlanV.opCode p o)) ⟨0, []⟩) (v4 : Int) (h : vwCheck_2 p o v4) : SemL Try.prog w0 fp ρi 0 34 [cwCheck_n24, .ret, (.exit 0)] [(4, some (.int .i64 v4))] ⟨2, []⟩ (kkwCheck_0 w0 fp ρi Kf p o) :=
  L_regE hGwCheck (rwCheck_2 p o v4 (fun e H => SemL Try.prog w0 fp ρi 0 34 [.ret, (.exit 0)] e H (kkwCheck_0 w0 fp ρi Kf p o)) (L_retE (R := RwCheck) (m := 0) (Kf := Kf) (fun _ _ h => h) (rtwCheck_2 p o v4) (ret_plain rfl (by kernel_rfl) (cg1 (fun (z1 : Int) => (.int .i64 z1 : SVal)) h) hK)))
theorem rwCheck_3 (p : PlanV) (o : OpV) (h1_2 : Int) (Z : Env → Heap → Prop) (h : ((I64 o.oat ∧ I64 h1_2)) ∧ Z [(4, some (.int .i64 (PlanV.codeOf p o.oat h1_2)))] ⟨2, []⟩) : EvC GwCheck cwCheck_n23 [(2, some (.ptr ⟨0, 0, 0, 1⟩ 46)), (3, some (.ptr ⟨1, 0, 0, 1⟩ 5))] ⟨2, [(0, some ⟨true, (PlanV.cs p), 0⟩), (1, some ⟨true, [.one (.int .i64 o.okind), .one (.int .i64 o.oat), .one (.int .i64 h1_2), .one (.int .u64 o.oval), .one (.int .u64 o.owant)], 0⟩)]⟩ [4] [] Z := EvC.of (by kernel_rfl) h
def vwCheck_3 (p : PlanV) (o : OpV) (h1_2 : Int) : Prop := ((I64 o.oat ∧ I64 h1_2)) ∧ (∀ v4 : Int, v4 = (PlanV.codeOf p o.oat h1_2) → vwCheck_2 p o v4)
theorem pwCheck_3 (p : PlanV) (o : OpV) (hK : Kf (.int .i64 (PlanV.opCode p o)) ⟨0, []⟩) (h1_2 : Int) (h : vwCheck_3 p o h1_2) : SemL Try.prog w0 fp ρi 0 34 [cwCheck_n23, (.seq cwCheck_n24 .ret), (.exit 0)] [(2, some (.ptr ⟨0, 0, 0, 1⟩ 46)), (3, some (.ptr ⟨1, 0, 0, 1⟩ 5))] ⟨2, [(0, some ⟨true, (PlanV.cs p), 0⟩), (1, some ⟨true, [.one (.int .i64 o.okind), .one (.int .i64 o.oat), .one (.int .i64 h1_2), .one (.int .u64 o.oval), .one (.int .u64 o.owant)], 0⟩)]⟩ (kkwCheck_0 w0 fp ρi Kf p o) :=
  L_regE hGwCheck (rwCheck_3 p o h1_2 (fun e H => SemL Try.prog w0 fp ρi 0 34 [(.seq cwCheck_n24 .ret), (.exit 0)] e H (kkwCheck_0 w0 fp ρi Kf p o)) ⟨h.1, (L_seq (pwCheck_2 p o hK (PlanV.codeOf p o.oat h1_2) (h.2 (PlanV.codeOf p o.oat h1_2) rfl)))⟩)
theorem rwCheck_4 (p : PlanV) (o : OpV) (Z : Env → Heap → Prop) (h : Z [(2, some (.ptr ⟨0, 0, 0, 1⟩ 46)), (3, some (.ptr ⟨1, 0, 0, 1⟩ 5))] ⟨2, [(0, some ⟨true, (PlanV.cs p), 0⟩), (1, some ⟨true, [.one (.int .i64 o.okind), .one (.int .i64 o.oat), .one (.int .i64 1), .one (.int .u64 o.oval), .one (.int .u64 o.owant)], 0⟩)]⟩) : EvC GwCheck cwCheck_n21 [(2, some (.ptr ⟨0, 0, 0, 1⟩ 46)), (3, some (.ptr ⟨1, 0, 0, 1⟩ 5))] ⟨2, [(0, some ⟨true, (PlanV.cs p), 0⟩), (1, some ⟨true, (OpV.cs o), 0⟩)]⟩ [2, 3] [0, 1] Z := EvC.of (by kernel_rfl) h
def vwCheck_4 (p : PlanV) (o : OpV) : Prop := vwCheck_3 p o 1
theorem pwCheck_4 (p : PlanV) (o : OpV) (hK : Kf (.int .i64 (PlanV.opCode p o)) ⟨0, []⟩) (h : vwCheck_4 p o) : SemL Try.prog w0 fp ρi 0 34 [cwCheck_n21] [(2, some (.ptr ⟨0, 0, 0, 1⟩ 46)), (3, some (.ptr ⟨1, 0, 0, 1⟩ 5))] ⟨2, [(0, some ⟨true, (PlanV.cs p), 0⟩), (1, some ⟨true, (OpV.cs o), 0⟩)]⟩ (kkwCheck_1 w0 fp ρi Kf p o) :=
  L_regE hGwCheck (rwCheck_4 p o (fun e H => SemL Try.prog w0 fp ρi 0 34 [] e H (kkwCheck_1 w0 fp ρi Kf p o)) (L_nil (L_seq (L_seq (pwCheck_3 p o hK 1 h)))))
theorem rwCheck_5 (p : PlanV) (o : OpV) (Z : Env → Heap → Prop) (h : Z [(4, some (.int .i64 1))] ⟨2, []⟩) : EvC GwCheck cwCheck_n26 [] ⟨2, []⟩ [4] [] Z := EvC.of (by kernel_rfl) h
theorem rtwCheck_3 (p : PlanV) (o : OpV) : RetC RwCheck [(4, some (.int .i64 1))] ⟨2, []⟩ (.int .i64 1) := RetC.of (fun Z => by kernel_rfl)
def vwCheck_5 (p : PlanV) (o : OpV) : Prop := 1 = (PlanV.opCode p o)
theorem pwCheck_5 (p : PlanV) (o : OpV) (hK : Kf (.int .i64 (PlanV.opCode p o)) ⟨0, []⟩) (h : vwCheck_5 p o) : SemL Try.prog w0 fp ρi 0 34 [cwCheck_n26, .ret] [] ⟨2, []⟩ (fnK RwCheck 0 Kf) :=
  L_regE hGwCheck (rwCheck_5 p o (fun e H => SemL Try.prog w0 fp ρi 0 34 [.ret] e H (fnK RwCheck 0 Kf)) (L_retE (R := RwCheck) (m := 0) (Kf := Kf) (fun _ _ h => h) (rtwCheck_3 p o) (ret_plain rfl (by kernel_rfl) (cg1 (fun (z1 : Int) => (.int .i64 z1 : SVal)) h) hK)))
def kkwCheck_3 (w0 : World) (fp : Nat → Nat → Prop) (ρi : Rho) (Kf : SVal → Heap → Prop) (p : PlanV) (o : OpV) : Cont := blockK 1 (fun e H => SemL Try.prog w0 fp ρi 0 34 [(.seq (.seq cwCheck_n19 .ret) (.exit 0))] e H (kkwCheck_2 w0 fp ρi Kf p o)) (kkwCheck_2 w0 fp ρi Kf p o)
def vwCheck_6 (p : PlanV) (o : OpV) (v17 : Bool) : Prop := (v17 = true → (vwCheck_3 p o o.on)) ∧ (v17 = false → (vwCheck_5 p o))
theorem pwCheck_6 (p : PlanV) (o : OpV) (hK : Kf (.int .i64 (PlanV.opCode p o)) ⟨0, []⟩) (v17 : Bool) (h : vwCheck_6 p o v17) : SemL Try.prog w0 fp ρi 0 34 [cwCheck_n17, (.exit 0)] [(2, some (.ptr ⟨0, 0, 0, 1⟩ 46)), (3, some (.ptr ⟨1, 0, 0, 1⟩ 5)), (17, some (.bool v17))] ⟨2, [(0, some ⟨true, (PlanV.cs p), 0⟩), (1, some ⟨true, (OpV.cs o), 0⟩)]⟩ (kkwCheck_3 w0 fp ρi Kf p o) :=
  L_cond (q := v17) (by kernel_rfl) (fun hq => (L_exit (L_pick (e' := [(2, some (.ptr ⟨0, 0, 0, 1⟩ 46)), (3, some (.ptr ⟨1, 0, 0, 1⟩ 5))]) (H' := ⟨2, [(0, some ⟨true, (PlanV.cs p), 0⟩), (1, some ⟨true, (OpV.cs o), 0⟩)]⟩) [2, 3] [0, 1] (by kernel_rfl) (by kernel_rfl) (L_seq (L_seq (pwCheck_3 p o hK o.on (h.1 hq))))))) (fun hq => (L_skip (L_pick (e' := []) (H' := ⟨2, []⟩) [] [] (by kernel_rfl) (by kernel_rfl) (L_exit (L_seq (pwCheck_5 p o hK (h.2 hq)))))))
theorem rwCheck_7 (p : PlanV) (o : OpV) (Z : Env → Heap → Prop) (h : Z [(2, some (.ptr ⟨0, 0, 0, 1⟩ 46)), (3, some (.ptr ⟨1, 0, 0, 1⟩ 5)), (17, some (.bool (o.okind == 4)))] ⟨2, [(0, some ⟨true, (PlanV.cs p), 0⟩), (1, some ⟨true, (OpV.cs o), 0⟩)]⟩) : EvC GwCheck cwCheck_n13 [(2, some (.ptr ⟨0, 0, 0, 1⟩ 46)), (3, some (.ptr ⟨1, 0, 0, 1⟩ 5)), (12, some (.int .i64 o.okind))] ⟨2, [(0, some ⟨true, (PlanV.cs p), 0⟩), (1, some ⟨true, (OpV.cs o), 0⟩)]⟩ [2, 3, 17] [0, 1] Z := EvC.of (by kernel_rfl) h
def vwCheck_7 (p : PlanV) (o : OpV) : Prop := ∀ v17 : Bool, v17 = (o.okind == 4) → vwCheck_6 p o v17
theorem pwCheck_7 (p : PlanV) (o : OpV) (hK : Kf (.int .i64 (PlanV.opCode p o)) ⟨0, []⟩) (h : vwCheck_7 p o) : SemL Try.prog w0 fp ρi 0 34 [cwCheck_n13, cwCheck_n17, (.exit 0)] [(2, some (.ptr ⟨0, 0, 0, 1⟩ 46)), (3, some (.ptr ⟨1, 0, 0, 1⟩ 5)), (12, some (.int .i64 o.okind))] ⟨2, [(0, some ⟨true, (PlanV.cs p), 0⟩), (1, some ⟨true, (OpV.cs o), 0⟩)]⟩ (kkwCheck_3 w0 fp ρi Kf p o) :=
  L_regE hGwCheck (rwCheck_7 p o (fun e H => SemL Try.prog w0 fp ρi 0 34 [cwCheck_n17, (.exit 0)] e H (kkwCheck_3 w0 fp ρi Kf p o)) (pwCheck_6 p o hK (o.okind == 4) (h (o.okind == 4) rfl)))
def vwCheck_8 (p : PlanV) (o : OpV) : Prop := ((o.okind == 3) = true → (∀ v17 : Bool, v17 = (o.okind == 3) → vwCheck_6 p o v17)) ∧ ((o.okind == 3) = false → (vwCheck_7 p o))
theorem pwCheck_8 (p : PlanV) (o : OpV) (hK : Kf (.int .i64 (PlanV.opCode p o)) ⟨0, []⟩) (h : vwCheck_8 p o) : SemL Try.prog w0 fp ρi 0 34 [cwCheck_n14, cwCheck_n17, (.exit 0)] [(2, some (.ptr ⟨0, 0, 0, 1⟩ 46)), (3, some (.ptr ⟨1, 0, 0, 1⟩ 5)), (12, some (.int .i64 o.okind)), (17, some (.bool (o.okind == 3)))] ⟨2, [(0, some ⟨true, (PlanV.cs p), 0⟩), (1, some ⟨true, (OpV.cs o), 0⟩)]⟩ (kkwCheck_3 w0 fp ρi Kf p o) :=
  L_cond (q := (o.okind == 3)) (by kernel_rfl) (fun hq => (L_skip (L_pick (e' := [(2, some (.ptr ⟨0, 0, 0, 1⟩ 46)), (3, some (.ptr ⟨1, 0, 0, 1⟩ 5)), (17, some (.bool (o.okind == 3)))]) (H' := ⟨2, [(0, some ⟨true, (PlanV.cs p), 0⟩), (1, some ⟨true, (OpV.cs o), 0⟩)]⟩) [2, 3, 17] [0, 1] (by kernel_rfl) (by kernel_rfl) (pwCheck_6 p o hK (o.okind == 3) ((h.1 hq) (o.okind == 3) rfl))))) (fun hq => (L_pick (e' := [(2, some (.ptr ⟨0, 0, 0, 1⟩ 46)), (3, some (.ptr ⟨1, 0, 0, 1⟩ 5)), (12, some (.int .i64 o.okind))]) (H' := ⟨2, [(0, some ⟨true, (PlanV.cs p), 0⟩), (1, some ⟨true, (OpV.cs o), 0⟩)]⟩) [2, 3, 12] [0, 1] (by kernel_rfl) (by kernel_rfl) (pwCheck_7 p o hK (h.2 hq))))
theorem rwCheck_9 (p : PlanV) (o : OpV) (Z : Env → Heap → Prop) (h : Z [(2, some (.ptr ⟨0, 0, 0, 1⟩ 46)), (3, some (.ptr ⟨1, 0, 0, 1⟩ 5)), (12, some (.int .i64 o.okind)), (17, some (.bool (o.okind == 3)))] ⟨2, [(0, some ⟨true, (PlanV.cs p), 0⟩), (1, some ⟨true, (OpV.cs o), 0⟩)]⟩) : EvC GwCheck cwCheck_n12 [(2, some (.ptr ⟨0, 0, 0, 1⟩ 46)), (3, some (.ptr ⟨1, 0, 0, 1⟩ 5)), (12, some (.int .i64 o.okind))] ⟨2, [(0, some ⟨true, (PlanV.cs p), 0⟩), (1, some ⟨true, (OpV.cs o), 0⟩)]⟩ [2, 3, 12, 17] [0, 1] Z := EvC.of (by kernel_rfl) h
def vwCheck_9 (p : PlanV) (o : OpV) : Prop := vwCheck_8 p o
theorem pwCheck_9 (p : PlanV) (o : OpV) (hK : Kf (.int .i64 (PlanV.opCode p o)) ⟨0, []⟩) (h : vwCheck_9 p o) : SemL Try.prog w0 fp ρi 0 34 [cwCheck_n12, cwCheck_n14, cwCheck_n17, (.exit 0)] [(2, some (.ptr ⟨0, 0, 0, 1⟩ 46)), (3, some (.ptr ⟨1, 0, 0, 1⟩ 5)), (12, some (.int .i64 o.okind))] ⟨2, [(0, some ⟨true, (PlanV.cs p), 0⟩), (1, some ⟨true, (OpV.cs o), 0⟩)]⟩ (kkwCheck_3 w0 fp ρi Kf p o) :=
  L_regE hGwCheck (rwCheck_9 p o (fun e H => SemL Try.prog w0 fp ρi 0 34 [cwCheck_n14, cwCheck_n17, (.exit 0)] e H (kkwCheck_3 w0 fp ρi Kf p o)) (pwCheck_8 p o hK h))
def vwCheck_10 (p : PlanV) (o : OpV) : Prop := ((o.okind == 2) = true → (∀ v17 : Bool, v17 = (o.okind == 2) → vwCheck_6 p o v17)) ∧ ((o.okind == 2) = false → (vwCheck_9 p o))
theorem pwCheck_10 (p : PlanV) (o : OpV) (hK : Kf (.int .i64 (PlanV.opCode p o)) ⟨0, []⟩) (h : vwCheck_10 p o) : SemL Try.prog w0 fp ρi 0 34 [cwCheck_n15, cwCheck_n17, (.exit 0)] [(2, some (.ptr ⟨0, 0, 0, 1⟩ 46)), (3, some (.ptr ⟨1, 0, 0, 1⟩ 5)), (12, some (.int .i64 o.okind)), (17, some (.bool (o.okind == 2)))] ⟨2, [(0, some ⟨true, (PlanV.cs p), 0⟩), (1, some ⟨true, (OpV.cs o), 0⟩)]⟩ (kkwCheck_3 w0 fp ρi Kf p o) :=
  L_cond (q := (o.okind == 2)) (by kernel_rfl) (fun hq => (L_skip (L_pick (e' := [(2, some (.ptr ⟨0, 0, 0, 1⟩ 46)), (3, some (.ptr ⟨1, 0, 0, 1⟩ 5)), (17, some (.bool (o.okind == 2)))]) (H' := ⟨2, [(0, some ⟨true, (PlanV.cs p), 0⟩), (1, some ⟨true, (OpV.cs o), 0⟩)]⟩) [2, 3, 17] [0, 1] (by kernel_rfl) (by kernel_rfl) (pwCheck_6 p o hK (o.okind == 2) ((h.1 hq) (o.okind == 2) rfl))))) (fun hq => (L_seq (L_pick (e' := [(2, some (.ptr ⟨0, 0, 0, 1⟩ 46)), (3, some (.ptr ⟨1, 0, 0, 1⟩ 5)), (12, some (.int .i64 o.okind))]) (H' := ⟨2, [(0, some ⟨true, (PlanV.cs p), 0⟩), (1, some ⟨true, (OpV.cs o), 0⟩)]⟩) [2, 3, 12] [0, 1] (by kernel_rfl) (by kernel_rfl) (pwCheck_9 p o hK (h.2 hq)))))
theorem rwCheck_11 (p : PlanV) (o : OpV) (Z : Env → Heap → Prop) (h : Z [(2, some (.ptr ⟨0, 0, 0, 1⟩ 46)), (3, some (.ptr ⟨1, 0, 0, 1⟩ 5)), (12, some (.int .i64 o.okind)), (17, some (.bool (o.okind == 2)))] ⟨2, [(0, some ⟨true, (PlanV.cs p), 0⟩), (1, some ⟨true, (OpV.cs o), 0⟩)]⟩) : EvC GwCheck cwCheck_n11 [(2, some (.ptr ⟨0, 0, 0, 1⟩ 46)), (3, some (.ptr ⟨1, 0, 0, 1⟩ 5)), (12, some (.int .i64 o.okind))] ⟨2, [(0, some ⟨true, (PlanV.cs p), 0⟩), (1, some ⟨true, (OpV.cs o), 0⟩)]⟩ [2, 3, 12, 17] [0, 1] Z := EvC.of (by kernel_rfl) h
def vwCheck_11 (p : PlanV) (o : OpV) : Prop := vwCheck_10 p o
theorem pwCheck_11 (p : PlanV) (o : OpV) (hK : Kf (.int .i64 (PlanV.opCode p o)) ⟨0, []⟩) (h : vwCheck_11 p o) : SemL Try.prog w0 fp ρi 0 34 [cwCheck_n11, cwCheck_n15, cwCheck_n17, (.exit 0)] [(2, some (.ptr ⟨0, 0, 0, 1⟩ 46)), (3, some (.ptr ⟨1, 0, 0, 1⟩ 5)), (12, some (.int .i64 o.okind))] ⟨2, [(0, some ⟨true, (PlanV.cs p), 0⟩), (1, some ⟨true, (OpV.cs o), 0⟩)]⟩ (kkwCheck_3 w0 fp ρi Kf p o) :=
  L_regE hGwCheck (rwCheck_11 p o (fun e H => SemL Try.prog w0 fp ρi 0 34 [cwCheck_n15, cwCheck_n17, (.exit 0)] e H (kkwCheck_3 w0 fp ρi Kf p o)) (pwCheck_10 p o hK h))
def vwCheck_12 (p : PlanV) (o : OpV) : Prop := ((o.okind == 1) = true → (∀ v17 : Bool, v17 = (o.okind == 1) → vwCheck_6 p o v17)) ∧ ((o.okind == 1) = false → (vwCheck_11 p o))
theorem pwCheck_12 (p : PlanV) (o : OpV) (hK : Kf (.int .i64 (PlanV.opCode p o)) ⟨0, []⟩) (h : vwCheck_12 p o) : SemL Try.prog w0 fp ρi 0 34 [cwCheck_n16, cwCheck_n17, (.exit 0)] [(2, some (.ptr ⟨0, 0, 0, 1⟩ 46)), (3, some (.ptr ⟨1, 0, 0, 1⟩ 5)), (12, some (.int .i64 o.okind)), (17, some (.bool (o.okind == 1)))] ⟨2, [(0, some ⟨true, (PlanV.cs p), 0⟩), (1, some ⟨true, (OpV.cs o), 0⟩)]⟩ (kkwCheck_3 w0 fp ρi Kf p o) :=
  L_cond (q := (o.okind == 1)) (by kernel_rfl) (fun hq => (L_skip (L_pick (e' := [(2, some (.ptr ⟨0, 0, 0, 1⟩ 46)), (3, some (.ptr ⟨1, 0, 0, 1⟩ 5)), (17, some (.bool (o.okind == 1)))]) (H' := ⟨2, [(0, some ⟨true, (PlanV.cs p), 0⟩), (1, some ⟨true, (OpV.cs o), 0⟩)]⟩) [2, 3, 17] [0, 1] (by kernel_rfl) (by kernel_rfl) (pwCheck_6 p o hK (o.okind == 1) ((h.1 hq) (o.okind == 1) rfl))))) (fun hq => (L_seq (L_pick (e' := [(2, some (.ptr ⟨0, 0, 0, 1⟩ 46)), (3, some (.ptr ⟨1, 0, 0, 1⟩ 5)), (12, some (.int .i64 o.okind))]) (H' := ⟨2, [(0, some ⟨true, (PlanV.cs p), 0⟩), (1, some ⟨true, (OpV.cs o), 0⟩)]⟩) [2, 3, 12] [0, 1] (by kernel_rfl) (by kernel_rfl) (pwCheck_11 p o hK (h.2 hq)))))
theorem rwCheck_13 (p : PlanV) (o : OpV) (Z : Env → Heap → Prop) (h : Z [(2, some (.ptr ⟨0, 0, 0, 1⟩ 46)), (3, some (.ptr ⟨1, 0, 0, 1⟩ 5)), (12, some (.int .i64 o.okind)), (17, some (.bool (o.okind == 1)))] ⟨2, [(0, some ⟨true, (PlanV.cs p), 0⟩), (1, some ⟨true, (OpV.cs o), 0⟩)]⟩) : EvC GwCheck cwCheck_n10 [(2, some (.ptr ⟨0, 0, 0, 1⟩ 46)), (3, some (.ptr ⟨1, 0, 0, 1⟩ 5)), (12, some (.int .i64 o.okind))] ⟨2, [(0, some ⟨true, (PlanV.cs p), 0⟩), (1, some ⟨true, (OpV.cs o), 0⟩)]⟩ [2, 3, 12, 17] [0, 1] Z := EvC.of (by kernel_rfl) h
def vwCheck_13 (p : PlanV) (o : OpV) : Prop := vwCheck_12 p o
theorem pwCheck_13 (p : PlanV) (o : OpV) (hK : Kf (.int .i64 (PlanV.opCode p o)) ⟨0, []⟩) (h : vwCheck_13 p o) : SemL Try.prog w0 fp ρi 0 34 [cwCheck_n10, cwCheck_n16, cwCheck_n17, (.exit 0)] [(2, some (.ptr ⟨0, 0, 0, 1⟩ 46)), (3, some (.ptr ⟨1, 0, 0, 1⟩ 5)), (12, some (.int .i64 o.okind))] ⟨2, [(0, some ⟨true, (PlanV.cs p), 0⟩), (1, some ⟨true, (OpV.cs o), 0⟩)]⟩ (kkwCheck_3 w0 fp ρi Kf p o) :=
  L_regE hGwCheck (rwCheck_13 p o (fun e H => SemL Try.prog w0 fp ρi 0 34 [cwCheck_n16, cwCheck_n17, (.exit 0)] e H (kkwCheck_3 w0 fp ρi Kf p o)) (pwCheck_12 p o hK h))
def vwCheck_14 (p : PlanV) (o : OpV) : Prop := ((o.okind == 5) = true → (vwCheck_4 p o)) ∧ ((o.okind == 5) = false → (vwCheck_13 p o))
theorem pwCheck_14 (p : PlanV) (o : OpV) (hK : Kf (.int .i64 (PlanV.opCode p o)) ⟨0, []⟩) (h : vwCheck_14 p o) : SemL Try.prog w0 fp ρi 0 34 [cwCheck_n9, (.seq (.seq cwCheck_n10 cwCheck_n16) cwCheck_n17), (.exit 0)] [(2, some (.ptr ⟨0, 0, 0, 1⟩ 46)), (3, some (.ptr ⟨1, 0, 0, 1⟩ 5)), (12, some (.int .i64 o.okind)), (15, some (.bool (o.okind == 5)))] ⟨2, [(0, some ⟨true, (PlanV.cs p), 0⟩), (1, some ⟨true, (OpV.cs o), 0⟩)]⟩ (kkwCheck_3 w0 fp ρi Kf p o) :=
  L_cond (q := (o.okind == 5)) (by kernel_rfl) (fun hq => (L_exit (L_pick (e' := [(2, some (.ptr ⟨0, 0, 0, 1⟩ 46)), (3, some (.ptr ⟨1, 0, 0, 1⟩ 5))]) (H' := ⟨2, [(0, some ⟨true, (PlanV.cs p), 0⟩), (1, some ⟨true, (OpV.cs o), 0⟩)]⟩) [2, 3] [0, 1] (by kernel_rfl) (by kernel_rfl) (pwCheck_4 p o hK (h.1 hq))))) (fun hq => (L_skip (L_pick (e' := [(2, some (.ptr ⟨0, 0, 0, 1⟩ 46)), (3, some (.ptr ⟨1, 0, 0, 1⟩ 5)), (12, some (.int .i64 o.okind))]) (H' := ⟨2, [(0, some ⟨true, (PlanV.cs p), 0⟩), (1, some ⟨true, (OpV.cs o), 0⟩)]⟩) [2, 3, 12] [0, 1] (by kernel_rfl) (by kernel_rfl) (L_seq (L_seq (pwCheck_13 p o hK (h.2 hq)))))))
theorem rwCheck_15 (p : PlanV) (o : OpV) (Z : Env → Heap → Prop) (h : Z [(2, some (.ptr ⟨0, 0, 0, 1⟩ 46)), (3, some (.ptr ⟨1, 0, 0, 1⟩ 5)), (12, some (.int .i64 o.okind)), (15, some (.bool (o.okind == 5)))] ⟨2, [(0, some ⟨true, (PlanV.cs p), 0⟩), (1, some ⟨true, (OpV.cs o), 0⟩)]⟩) : EvC GwCheck cwCheck_n8 [(2, some (.ptr ⟨0, 0, 0, 1⟩ 46)), (3, some (.ptr ⟨1, 0, 0, 1⟩ 5)), (12, some (.int .i64 o.okind))] ⟨2, [(0, some ⟨true, (PlanV.cs p), 0⟩), (1, some ⟨true, (OpV.cs o), 0⟩)]⟩ [2, 3, 12, 15] [0, 1] Z := EvC.of (by kernel_rfl) h
def vwCheck_15 (p : PlanV) (o : OpV) : Prop := vwCheck_14 p o
theorem pwCheck_15 (p : PlanV) (o : OpV) (hK : Kf (.int .i64 (PlanV.opCode p o)) ⟨0, []⟩) (h : vwCheck_15 p o) : SemL Try.prog w0 fp ρi 0 34 [cwCheck_n8, cwCheck_n9, (.seq (.seq cwCheck_n10 cwCheck_n16) cwCheck_n17), (.exit 0)] [(2, some (.ptr ⟨0, 0, 0, 1⟩ 46)), (3, some (.ptr ⟨1, 0, 0, 1⟩ 5)), (12, some (.int .i64 o.okind))] ⟨2, [(0, some ⟨true, (PlanV.cs p), 0⟩), (1, some ⟨true, (OpV.cs o), 0⟩)]⟩ (kkwCheck_3 w0 fp ρi Kf p o) :=
  L_regE hGwCheck (rwCheck_15 p o (fun e H => SemL Try.prog w0 fp ρi 0 34 [cwCheck_n9, (.seq (.seq cwCheck_n10 cwCheck_n16) cwCheck_n17), (.exit 0)] e H (kkwCheck_3 w0 fp ρi Kf p o)) (pwCheck_14 p o hK h))
def vwCheck_16 (p : PlanV) (o : OpV) : Prop := ((o.okind == 6) = true → (vwCheck_1 p o)) ∧ ((o.okind == 6) = false → (vwCheck_15 p o))
theorem pwCheck_16 (p : PlanV) (o : OpV) (hK : Kf (.int .i64 (PlanV.opCode p o)) ⟨0, []⟩) (h : vwCheck_16 p o) : SemL Try.prog w0 fp ρi 0 34 [cwCheck_n7, (.seq (.seq cwCheck_n8 cwCheck_n9) (.seq (.seq cwCheck_n10 cwCheck_n16) cwCheck_n17)), (.exit 0)] [(2, some (.ptr ⟨0, 0, 0, 1⟩ 46)), (3, some (.ptr ⟨1, 0, 0, 1⟩ 5)), (12, some (.int .i64 o.okind)), (13, some (.bool (o.okind == 6)))] ⟨2, [(0, some ⟨true, (PlanV.cs p), 0⟩), (1, some ⟨true, (OpV.cs o), 0⟩)]⟩ (kkwCheck_3 w0 fp ρi Kf p o) :=
  L_cond (q := (o.okind == 6)) (by kernel_rfl) (fun hq => (L_exit (L_pick (e' := []) (H' := ⟨2, []⟩) [] [] (by kernel_rfl) (by kernel_rfl) (L_seq (L_seq (pwCheck_1 p o hK (h.1 hq))))))) (fun hq => (L_skip (L_pick (e' := [(2, some (.ptr ⟨0, 0, 0, 1⟩ 46)), (3, some (.ptr ⟨1, 0, 0, 1⟩ 5)), (12, some (.int .i64 o.okind))]) (H' := ⟨2, [(0, some ⟨true, (PlanV.cs p), 0⟩), (1, some ⟨true, (OpV.cs o), 0⟩)]⟩) [2, 3, 12] [0, 1] (by kernel_rfl) (by kernel_rfl) (L_seq (L_seq (pwCheck_15 p o hK (h.2 hq)))))))
theorem rwCheck_17 (p : PlanV) (o : OpV) (Z : Env → Heap → Prop) (h : Z [(2, some (.ptr ⟨0, 0, 0, 1⟩ 46)), (3, some (.ptr ⟨1, 0, 0, 1⟩ 5)), (12, some (.int .i64 o.okind)), (13, some (.bool (o.okind == 6)))] ⟨2, [(0, some ⟨true, (PlanV.cs p), 0⟩), (1, some ⟨true, (OpV.cs o), 0⟩)]⟩) : EvC GwCheck cwCheck_n6 [(2, some (.ptr ⟨0, 0, 0, 1⟩ 46)), (3, some (.ptr ⟨1, 0, 0, 1⟩ 5)), (12, some (.int .i64 o.okind))] ⟨2, [(0, some ⟨true, (PlanV.cs p), 0⟩), (1, some ⟨true, (OpV.cs o), 0⟩)]⟩ [2, 3, 12, 13] [0, 1] Z := EvC.of (by kernel_rfl) h
def vwCheck_17 (p : PlanV) (o : OpV) : Prop := vwCheck_16 p o
theorem pwCheck_17 (p : PlanV) (o : OpV) (hK : Kf (.int .i64 (PlanV.opCode p o)) ⟨0, []⟩) (h : vwCheck_17 p o) : SemL Try.prog w0 fp ρi 0 34 [cwCheck_n6, cwCheck_n7, (.seq (.seq cwCheck_n8 cwCheck_n9) (.seq (.seq cwCheck_n10 cwCheck_n16) cwCheck_n17)), (.exit 0)] [(2, some (.ptr ⟨0, 0, 0, 1⟩ 46)), (3, some (.ptr ⟨1, 0, 0, 1⟩ 5)), (12, some (.int .i64 o.okind))] ⟨2, [(0, some ⟨true, (PlanV.cs p), 0⟩), (1, some ⟨true, (OpV.cs o), 0⟩)]⟩ (kkwCheck_3 w0 fp ρi Kf p o) :=
  L_regE hGwCheck (rwCheck_17 p o (fun e H => SemL Try.prog w0 fp ρi 0 34 [cwCheck_n7, (.seq (.seq cwCheck_n8 cwCheck_n9) (.seq (.seq cwCheck_n10 cwCheck_n16) cwCheck_n17)), (.exit 0)] e H (kkwCheck_3 w0 fp ρi Kf p o)) (pwCheck_16 p o hK h))
def vwCheck_18 (p : PlanV) (o : OpV) : Prop := vwCheck_17 p o
theorem pwCheck_18 (p : PlanV) (o : OpV) (hK : Kf (.int .i64 (PlanV.opCode p o)) ⟨0, []⟩) (h : vwCheck_18 p o) : SemL Try.prog w0 fp ρi 0 34 [cwCheck_n18, (.seq (.seq cwCheck_n19 .ret) (.exit 0))] [(2, some (.ptr ⟨0, 0, 0, 1⟩ 46)), (3, some (.ptr ⟨1, 0, 0, 1⟩ 5)), (12, some (.int .i64 o.okind))] ⟨2, [(0, some ⟨true, (PlanV.cs p), 0⟩), (1, some ⟨true, (OpV.cs o), 0⟩)]⟩ (kkwCheck_2 w0 fp ρi Kf p o) :=
  L_block (L_seq (L_seq (L_seq (pwCheck_17 p o hK h))))
def vwCheck_19 (p : PlanV) (o : OpV) : Prop := vwCheck_18 p o
theorem pwCheck_19 (p : PlanV) (o : OpV) (hK : Kf (.int .i64 (PlanV.opCode p o)) ⟨0, []⟩) (h : vwCheck_19 p o) : SemL Try.prog w0 fp ρi 0 34 [cwCheck_n20, cwCheck_n21] [(2, some (.ptr ⟨0, 0, 0, 1⟩ 46)), (3, some (.ptr ⟨1, 0, 0, 1⟩ 5)), (12, some (.int .i64 o.okind))] ⟨2, [(0, some ⟨true, (PlanV.cs p), 0⟩), (1, some ⟨true, (OpV.cs o), 0⟩)]⟩ (kkwCheck_1 w0 fp ρi Kf p o) :=
  L_block (L_seq (pwCheck_18 p o hK h))
def vwCheck_20 (p : PlanV) (o : OpV) : Prop := vwCheck_19 p o
theorem pwCheck_20 (p : PlanV) (o : OpV) (hK : Kf (.int .i64 (PlanV.opCode p o)) ⟨0, []⟩) (h : vwCheck_20 p o) : SemL Try.prog w0 fp ρi 0 34 [cwCheck_n22, (.seq (.seq cwCheck_n23 (.seq cwCheck_n24 .ret)) (.exit 0))] [(2, some (.ptr ⟨0, 0, 0, 1⟩ 46)), (3, some (.ptr ⟨1, 0, 0, 1⟩ 5)), (12, some (.int .i64 o.okind))] ⟨2, [(0, some ⟨true, (PlanV.cs p), 0⟩), (1, some ⟨true, (OpV.cs o), 0⟩)]⟩ (kkwCheck_0 w0 fp ρi Kf p o) :=
  L_block (L_seq (pwCheck_19 p o hK h))
def vwCheck_21 (p : PlanV) (o : OpV) : Prop := vwCheck_20 p o
theorem pwCheck_21 (p : PlanV) (o : OpV) (hK : Kf (.int .i64 (PlanV.opCode p o)) ⟨0, []⟩) (h : vwCheck_21 p o) : SemL Try.prog w0 fp ρi 0 34 [cwCheck_n25, (.seq cwCheck_n26 .ret)] [(2, some (.ptr ⟨0, 0, 0, 1⟩ 46)), (3, some (.ptr ⟨1, 0, 0, 1⟩ 5)), (12, some (.int .i64 o.okind))] ⟨2, [(0, some ⟨true, (PlanV.cs p), 0⟩), (1, some ⟨true, (OpV.cs o), 0⟩)]⟩ (fnK RwCheck 0 Kf) :=
  L_block (L_seq (pwCheck_20 p o hK h))
theorem rwCheck_22 (p : PlanV) (o : OpV) (Z : Env → Heap → Prop) (h : Z [(2, some (.ptr ⟨0, 0, 0, 1⟩ 46)), (3, some (.ptr ⟨1, 0, 0, 1⟩ 5)), (12, some (.int .i64 o.okind))] ⟨2, [(0, some ⟨true, (PlanV.cs p), 0⟩), (1, some ⟨true, (OpV.cs o), 0⟩)]⟩) : EvC GwCheck cwCheck_n5 [(2, some (.ptr ⟨0, 0, 0, 1⟩ 46)), (3, some (.ptr ⟨1, 0, 0, 1⟩ 5))] ⟨2, [(0, some ⟨true, (PlanV.cs p), 0⟩), (1, some ⟨true, (OpV.cs o), 0⟩)]⟩ [2, 3, 12] [0, 1] Z := EvC.of (by kernel_rfl) h
def vwCheck_22 (p : PlanV) (o : OpV) : Prop := vwCheck_21 p o
theorem pwCheck_22 (p : PlanV) (o : OpV) (hK : Kf (.int .i64 (PlanV.opCode p o)) ⟨0, []⟩) (h : vwCheck_22 p o) : SemL Try.prog w0 fp ρi 0 34 [cwCheck_n5, cwCheck_n25, (.seq cwCheck_n26 .ret)] [(2, some (.ptr ⟨0, 0, 0, 1⟩ 46)), (3, some (.ptr ⟨1, 0, 0, 1⟩ 5))] ⟨2, [(0, some ⟨true, (PlanV.cs p), 0⟩), (1, some ⟨true, (OpV.cs o), 0⟩)]⟩ (fnK RwCheck 0 Kf) :=
  L_regE hGwCheck (rwCheck_22 p o (fun e H => SemL Try.prog w0 fp ρi 0 34 [cwCheck_n25, (.seq cwCheck_n26 .ret)] e H (fnK RwCheck 0 Kf)) (pwCheck_21 p o hK h))
def vwCheck_23 (p : PlanV) (o : OpV) (v5 : Int) : Prop := ((v5 != 0) = true → (vwCheck_0 p o v5)) ∧ ((v5 != 0) = false → (vwCheck_22 p o))
theorem pwCheck_23 (p : PlanV) (o : OpV) (hK : Kf (.int .i64 (PlanV.opCode p o)) ⟨0, []⟩) (v5 : Int) (h : vwCheck_23 p o v5) : SemL Try.prog w0 fp ρi 0 34 [cwCheck_n4, (.seq (.seq cwCheck_n5 cwCheck_n25) (.seq cwCheck_n26 .ret))] [(2, some (.ptr ⟨0, 0, 0, 1⟩ 46)), (3, some (.ptr ⟨1, 0, 0, 1⟩ 5)), (5, some (.int .i64 v5)), (9, some (.bool (v5 != 0)))] ⟨2, [(0, some ⟨true, (PlanV.cs p), 0⟩), (1, some ⟨true, (OpV.cs o), 0⟩)]⟩ (fnK RwCheck 0 Kf) :=
  L_cond (q := (v5 != 0)) (by kernel_rfl) (fun hq => (L_seq (L_pick (e' := [(5, some (.int .i64 v5))]) (H' := ⟨2, []⟩) [5] [] (by kernel_rfl) (by kernel_rfl) (pwCheck_0 p o hK v5 (h.1 hq))))) (fun hq => (L_skip (L_pick (e' := [(2, some (.ptr ⟨0, 0, 0, 1⟩ 46)), (3, some (.ptr ⟨1, 0, 0, 1⟩ 5))]) (H' := ⟨2, [(0, some ⟨true, (PlanV.cs p), 0⟩), (1, some ⟨true, (OpV.cs o), 0⟩)]⟩) [2, 3] [0, 1] (by kernel_rfl) (by kernel_rfl) (L_seq (L_seq (pwCheck_22 p o hK (h.2 hq)))))))
theorem rwCheck_24 (p : PlanV) (o : OpV) (v5 : Int) (Z : Env → Heap → Prop) (h : Z [(2, some (.ptr ⟨0, 0, 0, 1⟩ 46)), (3, some (.ptr ⟨1, 0, 0, 1⟩ 5)), (5, some (.int .i64 v5)), (9, some (.bool (v5 != 0)))] ⟨2, [(0, some ⟨true, (PlanV.cs p), 0⟩), (1, some ⟨true, (OpV.cs o), 0⟩)]⟩) : EvC GwCheck cwCheck_n2 [(2, some (.ptr ⟨0, 0, 0, 1⟩ 46)), (3, some (.ptr ⟨1, 0, 0, 1⟩ 5)), (5, some (.int .i64 v5))] ⟨2, [(0, some ⟨true, (PlanV.cs p), 0⟩), (1, some ⟨true, (OpV.cs o), 0⟩)]⟩ [2, 3, 5, 9] [0, 1] Z := EvC.of (by kernel_rfl) h
def vwCheck_24 (p : PlanV) (o : OpV) (v5 : Int) : Prop := vwCheck_23 p o v5
theorem pwCheck_24 (p : PlanV) (o : OpV) (hK : Kf (.int .i64 (PlanV.opCode p o)) ⟨0, []⟩) (v5 : Int) (h : vwCheck_24 p o v5) : SemL Try.prog w0 fp ρi 0 34 [cwCheck_n2, cwCheck_n4, (.seq (.seq cwCheck_n5 cwCheck_n25) (.seq cwCheck_n26 .ret))] [(2, some (.ptr ⟨0, 0, 0, 1⟩ 46)), (3, some (.ptr ⟨1, 0, 0, 1⟩ 5)), (5, some (.int .i64 v5))] ⟨2, [(0, some ⟨true, (PlanV.cs p), 0⟩), (1, some ⟨true, (OpV.cs o), 0⟩)]⟩ (fnK RwCheck 0 Kf) :=
  L_regE hGwCheck (rwCheck_24 p o v5 (fun e H => SemL Try.prog w0 fp ρi 0 34 [cwCheck_n4, (.seq (.seq cwCheck_n5 cwCheck_n25) (.seq cwCheck_n26 .ret))] e H (fnK RwCheck 0 Kf)) (pwCheck_23 p o hK v5 h))
theorem rwCheck_25 (p : PlanV) (o : OpV) (Z : Env → Heap → Prop) (h : (True) ∧ Z [(2, some (.ptr ⟨0, 0, 0, 1⟩ 46)), (3, some (.ptr ⟨1, 0, 0, 1⟩ 5)), (5, some (.int .i64 (bif PlanV.right p then 0 else 4 : Int)))] ⟨2, [(0, some ⟨true, (PlanV.cs p), 0⟩), (1, some ⟨true, (OpV.cs o), 0⟩)]⟩) : EvC GwCheck cwCheck_n1 [(2, some (.ptr ⟨0, 0, 0, 1⟩ 46)), (3, some (.ptr ⟨1, 0, 0, 1⟩ 5))] ⟨2, [(0, some ⟨true, (PlanV.cs p), 0⟩), (1, some ⟨true, (OpV.cs o), 0⟩)]⟩ [2, 3, 5] [0, 1] Z := EvC.of (by kernel_rfl) h
def vwCheck_25 (p : PlanV) (o : OpV) : Prop := ∀ v5 : Int, v5 = (bif PlanV.right p then 0 else 4 : Int) → vwCheck_24 p o v5
theorem pwCheck_25 (p : PlanV) (o : OpV) (hK : Kf (.int .i64 (PlanV.opCode p o)) ⟨0, []⟩) (h : vwCheck_25 p o) : SemL Try.prog w0 fp ρi 0 34 [cwCheck_n1, (.seq cwCheck_n2 cwCheck_n4), (.seq (.seq cwCheck_n5 cwCheck_n25) (.seq cwCheck_n26 .ret))] [(2, some (.ptr ⟨0, 0, 0, 1⟩ 46)), (3, some (.ptr ⟨1, 0, 0, 1⟩ 5))] ⟨2, [(0, some ⟨true, (PlanV.cs p), 0⟩), (1, some ⟨true, (OpV.cs o), 0⟩)]⟩ (fnK RwCheck 0 Kf) :=
  L_regE hGwCheck (rwCheck_25 p o (fun e H => SemL Try.prog w0 fp ρi 0 34 [(.seq cwCheck_n2 cwCheck_n4), (.seq (.seq cwCheck_n5 cwCheck_n25) (.seq cwCheck_n26 .ret))] e H (fnK RwCheck 0 Kf)) ⟨True.intro, (L_seq (pwCheck_24 p o hK (bif PlanV.right p then 0 else 4 : Int) (h (bif PlanV.right p then 0 else 4 : Int) rfl)))⟩)
theorem rwCheck_26 (p : PlanV) (o : OpV) (Z : Env → Heap → Prop) (h : Z [(2, some (.ptr ⟨0, 0, 0, 1⟩ 46)), (3, some (.ptr ⟨1, 0, 0, 1⟩ 5))] ⟨2, [(0, some ⟨true, (PlanV.cs p), 0⟩), (1, some ⟨true, (OpV.cs o), 0⟩)]⟩) : EvC GwCheck cwCheck_n0 [(0, some (.agg (PlanV.cs p))), (1, some (.agg (OpV.cs o)))] ⟨0, []⟩ [2, 3] [0, 1] Z := EvC.of (by kernel_rfl) h
def vwCheck_26 (p : PlanV) (o : OpV) : Prop := vwCheck_25 p o
theorem pwCheck_26 (p : PlanV) (o : OpV) (hK : Kf (.int .i64 (PlanV.opCode p o)) ⟨0, []⟩) (h : vwCheck_26 p o) : SemL Try.prog w0 fp ρi 0 34 [cwCheck_n0, (.seq (.seq cwCheck_n1 (.seq cwCheck_n2 cwCheck_n4)) (.seq (.seq cwCheck_n5 cwCheck_n25) (.seq cwCheck_n26 .ret)))] [(0, some (.agg (PlanV.cs p))), (1, some (.agg (OpV.cs o)))] ⟨0, []⟩ (fnK RwCheck 0 Kf) :=
  L_regE hGwCheck (rwCheck_26 p o (fun e H => SemL Try.prog w0 fp ρi 0 34 [(.seq (.seq cwCheck_n1 (.seq cwCheck_n2 cwCheck_n4)) (.seq (.seq cwCheck_n5 cwCheck_n25) (.seq cwCheck_n26 .ret)))] e H (fnK RwCheck 0 Kf)) (L_seq (L_seq (pwCheck_25 p o hK h))))
def vcwCheck (p : PlanV) (o : OpV) : Prop := vwCheck_26 p o
theorem wwCheck (p : PlanV) (o : OpV) (hK : Kf (.int .i64 (PlanV.opCode p o)) ⟨0, []⟩) (h : vcwCheck p o) : SemL Try.prog w0 fp ρi 0 34 [cwCheck] [(0, some (.agg (PlanV.cs p))), (1, some (.agg (OpV.cs o)))] ⟨0, []⟩ (fnK RwCheck 0 Kf) :=
  (L_seq (pwCheck_26 p o hK h))
end
theorem okwCheck (p : PlanV) (o : OpV) (hpre : (OpV.Wf o)) : vcwCheck p o := by
  unfold vcwCheck vwCheck_26 vwCheck_25 vwCheck_24 vwCheck_23 vwCheck_22 vwCheck_21 vwCheck_20 vwCheck_19 vwCheck_18 vwCheck_17 vwCheck_16 vwCheck_15 vwCheck_14 vwCheck_13 vwCheck_12 vwCheck_11 vwCheck_10 vwCheck_9 vwCheck_8 vwCheck_7 vwCheck_6 vwCheck_5 vwCheck_4 vwCheck_3 vwCheck_2 vwCheck_1 vwCheck_0
  obtain ⟨w1, w2, w3, w4, w5⟩ := hpre
  have i1 : I64 1 := by unfold I64; decide
  cases hr : p.right with
  | false =>
    rintro _ rfl
    exact ⟨fun _ => (PlanV.opc4 hr).symm, fun h => by cases h⟩
  | true =>
    rintro _ rfl
    simp only [beq_iff_eq, beq_eq_false_iff_ne, ne_eq]
    refine ⟨fun h => (by cases h), fun _ => ⟨fun h => (PlanV.opc0 hr h).symm, fun h6 => ⟨fun h => ⟨⟨w2, i1⟩, ?_⟩, fun h5 => ?_⟩⟩⟩
    · rintro _ rfl
      exact (PlanV.opcF hr h).symm
    have both : ∀ q : Bool, (q = true → 1 ≤ o.okind ∧ o.okind ≤ 4) → (q = false → ¬ (1 ≤ o.okind ∧ o.okind ≤ 6)) → (q = true → (I64 o.oat ∧ I64 o.on) ∧ ∀ v4 : Int, v4 = p.codeOf o.oat o.on → v4 = p.opCode o) ∧ (q = false → 1 = p.opCode o) := fun q h1 h2 => by
      refine ⟨fun h => ⟨⟨w2, w3⟩, ?_⟩, fun h => (PlanV.opc1 hr (h2 h)).symm⟩
      rintro _ rfl
      exact (PlanV.opcE hr (h1 h).1 (h1 h).2).symm
    refine ⟨fun h => ?_, fun h1 => ⟨fun h => ?_, fun h2 => ⟨fun h => ?_, fun h3 => ?_⟩⟩⟩
    all_goals
      rintro _ rfl
      refine both _ (fun hq => ?_) (fun hq => ?_)
      · have := beq_iff_eq.1 hq; omega
      · have := beq_eq_false_iff_ne.1 hq; omega
theorem swCheck : Sound Try.prog 109 (pureS PwCheck) := by
  refine fn_soundA cwCheck_fits ?_
  intro args H K h
  obtain ⟨pre, v, hP, hpre, rfl, hK⟩ := pureS_inv h
  unfold PwCheck at hP
  split at hP
  · obtain ⟨hb, hP⟩ := bif_some hP
    simp only [Bool.and_eq_true] at hb
    obtain ⟨h0, h1⟩ := hb
    obtain rfl := Nat.eq_of_beq_eq_true h0
    obtain rfl := Nat.eq_of_beq_eq_true h1
    cases hP
    exact ⟨rfl, fun w0 fp ρi => wwCheck (PlanV.mk _ _ _ _ _ _ _ _ _ _ _ _ _ _ _ _) (OpV.mk _ _ _ _ _) hK (okwCheck (PlanV.mk _ _ _ _ _ _ _ _ _ _ _ _ _ _ _ _) (OpV.mk _ _ _ _ _) hpre)⟩
  · cases hP
def Pq16Check : PSpec := fun args => match args with
  | [.agg [.one (.int .i64 p_0), .one (.int .i64 p_1), .one (.int .i64 p_2), .one (.int .i64 p_3), .one (.int .i64 p_4), .one (.int .i64 p_5), .one (.int .u64 p_6), .one (.int .i64 p_7), .one (.int .i64 p_8), .one (.int .i64 p_9), .one (.int .i64 p_10), .one (.int .i64 p_11), .one (.int .i64 p_12), .one (.int .i64 p_13), .ints .u8 p_14_n p_14, .ints .u8 p_15_n p_15], .agg [.one (.int .i64 o_0), .one (.int .i64 o_1), .one (.int .i64 o_2), .one (.int .u64 o_3), .one (.int .u64 o_4)]] => bif Nat.beq p_14_n 16 && Nat.beq p_15_n 16 then some ((OpV.Wf (OpV.mk o_0 o_1 o_2 o_3 o_4)), .int .i64 (PlanV.opCode (PlanV.mk p_0 p_1 p_2 p_3 p_4 p_5 p_6 p_7 p_8 p_9 p_10 p_11 p_12 p_13 p_14 p_15) (OpV.mk o_0 o_1 o_2 o_3 o_4))) else none
  | _ => none
def pcq16Check : PCon := ⟨107, Pq16Check⟩
def cq16Check_n0 : ACode := .reg (.op (some 2) (.box (.tm 0)) (.op (some 3) (.box (.tm 1)) (.op (some 4) (.mov (.cn (.int .i64 0))) .nil)))
def cq16Check_n1 : ACode := .reg (.op (some 9) (.loadA 46 (.tm 2)) (.op (some 10) (.call 50 [(.tm 9)]) (.op (some 11) (.not (.tm 10)) .nil)))
def cq16Check_n2 : ACode := .reg (.op (some 4) (.mov (.cn (.int .i64 4))) .nil)
def cq16Check_n3 : ACode := .cond (.tm 11) (.seq cq16Check_n2 .ret) .skip
def cq16Check_n4 : ACode := .reg (.op (some 12) (.fieldAddr (.tm 3) 0 1) (.op (some 13) (.load1 (.tm 12)) (.op (some 14) (.bin .lss (.tm 13) (.cn (.int .i64 1))) (.op (some 15) (.mov (.tm 14)) (.grpJ 15 false (.op (some 16) (.fieldAddr (.tm 3) 0 1) (.op (some 17) (.load1 (.tm 16)) (.op (some 18) (.bin .gtr (.tm 17) (.cn (.int .i64 6))) .nil))) 19 (.tm 18) (.cn (.bool true)) .nil)))))
def cq16Check_n5 : ACode := .reg (.op (some 4) (.mov (.cn (.int .i64 1))) .nil)
def cq16Check_n6 : ACode := .cond (.tm 19) (.seq cq16Check_n5 .ret) .skip
def cq16Check_n7 : ACode := .reg (.op (some 20) (.fieldAddr (.tm 3) 0 1) (.op (some 21) (.load1 (.tm 20)) (.op (some 22) (.bin .eql (.tm 21) (.cn (.int .i64 6))) .nil)))
def cq16Check_n8 : ACode := .reg (.op (some 4) (.mov (.cn (.int .i64 0))) .nil)
def cq16Check_n9 : ACode := .cond (.tm 22) (.seq cq16Check_n8 .ret) .skip
def cq16Check_n10 : ACode := .reg (.op (some 23) (.fieldAddr (.tm 3) 2 1) (.op (some 24) (.load1 (.tm 23)) (.op (some 5) (.mov (.tm 24)) .nil)))
def cq16Check_n11 : ACode := .reg (.op (some 25) (.fieldAddr (.tm 3) 0 1) (.op (some 26) (.load1 (.tm 25)) (.op (some 27) (.bin .eql (.tm 26) (.cn (.int .i64 5))) .nil)))
def cq16Check_n12 : ACode := .reg (.op (some 5) (.mov (.cn (.int .i64 1))) .nil)
def cq16Check_n13 : ACode := .cond (.tm 27) cq16Check_n12 .skip
def cq16Check_n14 : ACode := .reg (.op (some 29) (.loadA 46 (.tm 2)) (.op (some 30) (.fieldAddr (.tm 3) 1 1) (.op (some 31) (.load1 (.tm 30)) (.op (some 32) (.mov (.tm 5)) (.op (some 33) (.call 81 [(.tm 29), (.tm 31), (.tm 32)]) (.op (some 28) (.mov (.tm 33)) (.op (some 34) (.extract (.tm 28) 0) (.op (some 35) (.extract (.tm 28) 1) (.op (some 36) (.extract (.tm 28) 2) (.op (some 6) (.mov (.tm 34)) (.op (some 7) (.mov (.tm 35)) (.op (some 8) (.mov (.tm 36)) .nil))))))))))))
def cq16Check_n15 : ACode := .reg (.op (some 37) (.mov (.tm 8)) (.op (some 4) (.mov (.tm 37)) .nil))
def cq16Check : ACode := (.seq cq16Check_n0 (.seq (.seq cq16Check_n1 cq16Check_n3) (.seq (.seq cq16Check_n4 cq16Check_n6) (.seq (.seq cq16Check_n7 cq16Check_n9) (.seq cq16Check_n10 (.seq (.seq cq16Check_n11 cq16Check_n13) (.seq cq16Check_n14 (.seq cq16Check_n15 .ret))))))))
def Rq16Check : Res := .one (.tm 4)
theorem cq16Check_fits : fnFits Try.prog 107 2 38 cq16Check Rq16Check = true := by kernel_rfl
def Gq16Check : Calls' := withP [pcqRight, pcqLine] []
theorem hGq16Check : CallOk Try.prog Gq16Check := withP_ok ⟨sqRight, sqLine, trivial⟩ trivial
section
variable {w0 : World} {fp : Nat → Nat → Prop} {ρi : Rho} {Kf : SVal → Heap → Prop}
theorem rq16Check_0 (p : PlanV) (o : OpV) (Z : Env → Heap → Prop) (h : Z [(4, some (.int .i64 4))] ⟨2, []⟩) : EvC Gq16Check cq16Check_n2 [] ⟨2, []⟩ [4] [] Z := EvC.of (by kernel_rfl) h
theorem rtq16Check_0 (p : PlanV) (o : OpV) : RetC Rq16Check [(4, some (.int .i64 4))] ⟨2, []⟩ (.int .i64 4) := RetC.of (fun Z => by kernel_rfl)
def vq16Check_0 (p : PlanV) (o : OpV) : Prop := 4 = (PlanV.opCode p o)
theorem pq16Check_0 (p : PlanV) (o : OpV) (hK : Kf (.int .i64 (PlanV.opCode p o)) ⟨0, []⟩) (h : vq16Check_0 p o) : SemL Try.prog w0 fp ρi 0 38 [cq16Check_n2, .ret, (.seq (.seq cq16Check_n4 cq16Check_n6) (.seq (.seq cq16Check_n7 cq16Check_n9) (.seq cq16Check_n10 (.seq (.seq cq16Check_n11 cq16Check_n13) (.seq cq16Check_n14 (.seq cq16Check_n15 .ret))))))] [] ⟨2, []⟩ (fnK Rq16Check 0 Kf) :=
  L_regE hGq16Check (rq16Check_0 p o (fun e H => SemL Try.prog w0 fp ρi 0 38 [.ret, (.seq (.seq cq16Check_n4 cq16Check_n6) (.seq (.seq cq16Check_n7 cq16Check_n9) (.seq cq16Check_n10 (.seq (.seq cq16Check_n11 cq16Check_n13) (.seq cq16Check_n14 (.seq cq16Check_n15 .ret))))))] e H (fnK Rq16Check 0 Kf)) (L_retE (R := Rq16Check) (m := 0) (Kf := Kf) (fun _ _ h => h) (rtq16Check_0 p o) (ret_plain rfl (by kernel_rfl) (cg1 (fun (z1 : Int) => (.int .i64 z1 : SVal)) h) hK)))
theorem rq16Check_1 (p : PlanV) (o : OpV) (Z : Env → Heap → Prop) (h : Z [(4, some (.int .i64 1))] ⟨2, []⟩) : EvC Gq16Check cq16Check_n5 [] ⟨2, []⟩ [4] [] Z := EvC.of (by kernel_rfl) h
theorem rtq16Check_1 (p : PlanV) (o : OpV) : RetC Rq16Check [(4, some (.int .i64 1))] ⟨2, []⟩ (.int .i64 1) := RetC.of (fun Z => by kernel_rfl)
def vq16Check_1 (p : PlanV) (o : OpV) : Prop := 1 = (PlanV.opCode p o)
theorem pq16Check_1 (p : PlanV) (o : OpV) (hK : Kf (.int .i64 (PlanV.opCode p o)) ⟨0, []⟩) (h : vq16Check_1 p o) : SemL Try.prog w0 fp ρi 0 38 [cq16Check_n5, .ret, (.seq (.seq cq16Check_n7 cq16Check_n9) (.seq cq16Check_n10 (.seq (.seq cq16Check_n11 cq16Check_n13) (.seq cq16Check_n14 (.seq cq16Check_n15 .ret)))))] [] ⟨2, []⟩ (fnK Rq16Check 0 Kf) :=
  L_regE hGq16Check (rq16Check_1 p o (fun e H => SemL Try.prog w0 fp ρi 0 38 [.ret, (.seq (.seq cq16Check_n7 cq16Check_n9) (.seq cq16Check_n10 (.seq (.seq cq16Check_n11 cq16Check_n13) (.seq cq16Check_n14 (.seq cq16Check_n15 .ret)))))] e H (fnK Rq16Check 0 Kf)) (L_retE (R := Rq16Check) (m := 0) (Kf := Kf) (fun _ _ h => h) (rtq16Check_1 p o) (ret_plain rfl (by kernel_rfl) (cg1 (fun (z1 : Int) => (.int .i64 z1 : SVal)) h) hK)))
theorem rq16Check_2 (p : PlanV) (o : OpV) (Z : Env → Heap → Prop) (h : Z [(4, some (.int .i64 0))] ⟨2, []⟩) : EvC Gq16Check cq16Check_n8 [] ⟨2, []⟩ [4] [] Z := EvC.of (by kernel_rfl) h
theorem rtq16Check_2 (p : PlanV) (o : OpV) : RetC Rq16Check [(4, some (.int .i64 0))] ⟨2, []⟩ (.int .i64 0) := RetC.of (fun Z => by kernel_rfl)
def vq16Check_2 (p : PlanV) (o : OpV) : Prop := 0 = (PlanV.opCode p o)
theorem pq16Check_2 (p : PlanV) (o : OpV) (hK : Kf (.int .i64 (PlanV.opCode p o)) ⟨0, []⟩) (h : vq16Check_2 p o) : SemL Try.prog w0 fp ρi 0 38 [cq16Check_n8, .ret, (.seq cq16Check_n10 (.seq (.seq cq16Check_n11 cq16Check_n13) (.seq cq16Check_n14 (.seq cq16Check_n15 .ret))))] [] ⟨2, []⟩ (fnK Rq16Check 0 Kf) :=
  L_regE hGq16Check (rq16Check_2 p o (fun e H => SemL Try.prog w0 fp ρi 0 38 [.ret, (.seq cq16Check_n10 (.seq (.seq cq16Check_n11 cq16Check_n13) (.seq cq16Check_n14 (.seq cq16Check_n15 .ret))))] e H (fnK Rq16Check 0 Kf)) (L_retE (R := Rq16Check) (m := 0) (Kf := Kf) (fun _ _ h => h) (rtq16Check_2 p o) (ret_plain rfl (by kernel_rfl) (cg1 (fun (z1 : Int) => (.int .i64 z1 : SVal)) h) hK)))
theorem rq16Check_3 (p : PlanV) (o : OpV) (v8 : Int) (Z : Env → Heap → Prop) (h : Z [(4, some (.int .i64 v8))] ⟨2, []⟩) : EvC Gq16Check cq16Check_n15 [(8, some (.int .i64 v8))] ⟨2, []⟩ [4] [] Z := EvC.of (by kernel_rfl) h
theorem rtq16Check_3 (p : PlanV) (o : OpV) (v8 : Int) : RetC Rq16Check [(4, some (.int .i64 v8))] ⟨2, []⟩ (.int .i64 v8) := RetC.of (fun Z => by kernel_rfl)
def vq16Check_3 (p : PlanV) (o : OpV) (v8 : Int) : Prop := v8 = (PlanV.opCode p o)
theorem pq16Check_3 (p : PlanV) (o : OpV) (hK : Kf (.int .i64 (PlanV.opCode p o)) ⟨0, []⟩) (v8 : Int) (h : vq16Check_3 p o v8) : SemL Try.prog w0 fp ρi 0 38 [cq16Check_n15, .ret] [(8, some (.int .i64 v8))] ⟨2, []⟩ (fnK Rq16Check 0 Kf) :=
  L_regE hGq16Check (rq16Check_3 p o v8 (fun e H => SemL Try.prog w0 fp ρi 0 38 [.ret] e H (fnK Rq16Check 0 Kf)) (L_retE (R := Rq16Check) (m := 0) (Kf := Kf) (fun _ _ h => h) (rtq16Check_3 p o v8) (ret_plain rfl (by kernel_rfl) (cg1 (fun (z1 : Int) => (.int .i64 z1 : SVal)) h) hK)))
theorem rq16Check_4 (p : PlanV) (o : OpV) (v5 : Int) (Z : Env → Heap → Prop) (h : ((I64 o.oat ∧ I64 v5)) ∧ Z [(8, some (.int .i64 (PlanV.codeOf p o.oat v5)))] ⟨2, []⟩) : EvC Gq16Check cq16Check_n14 [(2, some (.ptr ⟨0, 0, 0, 1⟩ 46)), (3, some (.ptr ⟨1, 0, 0, 1⟩ 5)), (5, some (.int .i64 v5))] ⟨2, [(0, some ⟨true, (PlanV.cs p), 0⟩), (1, some ⟨true, (OpV.cs o), 0⟩)]⟩ [8] [] Z := EvC.of (by kernel_rfl) h
def vq16Check_4 (p : PlanV) (o : OpV) (v5 : Int) : Prop := ((I64 o.oat ∧ I64 v5)) ∧ (∀ v8 : Int, v8 = (PlanV.codeOf p o.oat v5) → vq16Check_3 p o v8)
theorem pq16Check_4 (p : PlanV) (o : OpV) (hK : Kf (.int .i64 (PlanV.opCode p o)) ⟨0, []⟩) (v5 : Int) (h : vq16Check_4 p o v5) : SemL Try.prog w0 fp ρi 0 38 [cq16Check_n14, (.seq cq16Check_n15 .ret)] [(2, some (.ptr ⟨0, 0, 0, 1⟩ 46)), (3, some (.ptr ⟨1, 0, 0, 1⟩ 5)), (5, some (.int .i64 v5))] ⟨2, [(0, some ⟨true, (PlanV.cs p), 0⟩), (1, some ⟨true, (OpV.cs o), 0⟩)]⟩ (fnK Rq16Check 0 Kf) :=
  L_regE hGq16Check (rq16Check_4 p o v5 (fun e H => SemL Try.prog w0 fp ρi 0 38 [(.seq cq16Check_n15 .ret)] e H (fnK Rq16Check 0 Kf)) ⟨h.1, (L_seq (pq16Check_3 p o hK (PlanV.codeOf p o.oat v5) (h.2 (PlanV.codeOf p o.oat v5) rfl)))⟩)
theorem rq16Check_5 (p : PlanV) (o : OpV) (Z : Env → Heap → Prop) (h : Z [(2, some (.ptr ⟨0, 0, 0, 1⟩ 46)), (3, some (.ptr ⟨1, 0, 0, 1⟩ 5)), (5, some (.int .i64 1))] ⟨2, [(0, some ⟨true, (PlanV.cs p), 0⟩), (1, some ⟨true, (OpV.cs o), 0⟩)]⟩) : EvC Gq16Check cq16Check_n12 [(2, some (.ptr ⟨0, 0, 0, 1⟩ 46)), (3, some (.ptr ⟨1, 0, 0, 1⟩ 5))] ⟨2, [(0, some ⟨true, (PlanV.cs p), 0⟩), (1, some ⟨true, (OpV.cs o), 0⟩)]⟩ [2, 3, 5] [0, 1] Z := EvC.of (by kernel_rfl) h
def vq16Check_5 (p : PlanV) (o : OpV) : Prop := vq16Check_4 p o 1
theorem pq16Check_5 (p : PlanV) (o : OpV) (hK : Kf (.int .i64 (PlanV.opCode p o)) ⟨0, []⟩) (h : vq16Check_5 p o) : SemL Try.prog w0 fp ρi 0 38 [cq16Check_n12, (.seq cq16Check_n14 (.seq cq16Check_n15 .ret))] [(2, some (.ptr ⟨0, 0, 0, 1⟩ 46)), (3, some (.ptr ⟨1, 0, 0, 1⟩ 5))] ⟨2, [(0, some ⟨true, (PlanV.cs p), 0⟩), (1, some ⟨true, (OpV.cs o), 0⟩)]⟩ (fnK Rq16Check 0 Kf) :=
  L_regE hGq16Check (rq16Check_5 p o (fun e H => SemL Try.prog w0 fp ρi 0 38 [(.seq cq16Check_n14 (.seq cq16Check_n15 .ret))] e H (fnK Rq16Check 0 Kf)) (L_seq (pq16Check_4 p o hK 1 h)))
def vq16Check_6 (p : PlanV) (o : OpV) : Prop := ((o.okind == 5) = true → (vq16Check_5 p o)) ∧ ((o.okind == 5) = false → (vq16Check_4 p o o.on))
theorem pq16Check_6 (p : PlanV) (o : OpV) (hK : Kf (.int .i64 (PlanV.opCode p o)) ⟨0, []⟩) (h : vq16Check_6 p o) : SemL Try.prog w0 fp ρi 0 38 [cq16Check_n13, (.seq cq16Check_n14 (.seq cq16Check_n15 .ret))] [(2, some (.ptr ⟨0, 0, 0, 1⟩ 46)), (3, some (.ptr ⟨1, 0, 0, 1⟩ 5)), (5, some (.int .i64 o.on)), (27, some (.bool (o.okind == 5)))] ⟨2, [(0, some ⟨true, (PlanV.cs p), 0⟩), (1, some ⟨true, (OpV.cs o), 0⟩)]⟩ (fnK Rq16Check 0 Kf) :=
  L_cond (q := (o.okind == 5)) (by kernel_rfl) (fun hq => (L_pick (e' := [(2, some (.ptr ⟨0, 0, 0, 1⟩ 46)), (3, some (.ptr ⟨1, 0, 0, 1⟩ 5))]) (H' := ⟨2, [(0, some ⟨true, (PlanV.cs p), 0⟩), (1, some ⟨true, (OpV.cs o), 0⟩)]⟩) [2, 3] [0, 1] (by kernel_rfl) (by kernel_rfl) (pq16Check_5 p o hK (h.1 hq)))) (fun hq => (L_skip (L_pick (e' := [(2, some (.ptr ⟨0, 0, 0, 1⟩ 46)), (3, some (.ptr ⟨1, 0, 0, 1⟩ 5)), (5, some (.int .i64 o.on))]) (H' := ⟨2, [(0, some ⟨true, (PlanV.cs p), 0⟩), (1, some ⟨true, (OpV.cs o), 0⟩)]⟩) [2, 3, 5] [0, 1] (by kernel_rfl) (by kernel_rfl) (L_seq (pq16Check_4 p o hK o.on (h.2 hq))))))
theorem rq16Check_7 (p : PlanV) (o : OpV) (Z : Env → Heap → Prop) (h : Z [(2, some (.ptr ⟨0, 0, 0, 1⟩ 46)), (3, some (.ptr ⟨1, 0, 0, 1⟩ 5)), (5, some (.int .i64 o.on)), (27, some (.bool (o.okind == 5)))] ⟨2, [(0, some ⟨true, (PlanV.cs p), 0⟩), (1, some ⟨true, (OpV.cs o), 0⟩)]⟩) : EvC Gq16Check cq16Check_n11 [(2, some (.ptr ⟨0, 0, 0, 1⟩ 46)), (3, some (.ptr ⟨1, 0, 0, 1⟩ 5)), (5, some (.int .i64 o.on))] ⟨2, [(0, some ⟨true, (PlanV.cs p), 0⟩), (1, some ⟨true, (OpV.cs o), 0⟩)]⟩ [2, 3, 5, 27] [0, 1] Z := EvC.of (by kernel_rfl) h
def vq16Check_7 (p : PlanV) (o : OpV) : Prop := vq16Check_6 p o
theorem pq16Check_7 (p : PlanV) (o : OpV) (hK : Kf (.int .i64 (PlanV.opCode p o)) ⟨0, []⟩) (h : vq16Check_7 p o) : SemL Try.prog w0 fp ρi 0 38 [cq16Check_n11, cq16Check_n13, (.seq cq16Check_n14 (.seq cq16Check_n15 .ret))] [(2, some (.ptr ⟨0, 0, 0, 1⟩ 46)), (3, some (.ptr ⟨1, 0, 0, 1⟩ 5)), (5, some (.int .i64 o.on))] ⟨2, [(0, some ⟨true, (PlanV.cs p), 0⟩), (1, some ⟨true, (OpV.cs o), 0⟩)]⟩ (fnK Rq16Check 0 Kf) :=
  L_regE hGq16Check (rq16Check_7 p o (fun e H => SemL Try.prog w0 fp ρi 0 38 [cq16Check_n13, (.seq cq16Check_n14 (.seq cq16Check_n15 .ret))] e H (fnK Rq16Check 0 Kf)) (pq16Check_6 p o hK h))
theorem rq16Check_8 (p : PlanV) (o : OpV) (Z : Env → Heap → Prop) (h : Z [(2, some (.ptr ⟨0, 0, 0, 1⟩ 46)), (3, some (.ptr ⟨1, 0, 0, 1⟩ 5)), (5, some (.int .i64 o.on))] ⟨2, [(0, some ⟨true, (PlanV.cs p), 0⟩), (1, some ⟨true, (OpV.cs o), 0⟩)]⟩) : EvC Gq16Check cq16Check_n10 [(2, some (.ptr ⟨0, 0, 0, 1⟩ 46)), (3, some (.ptr ⟨1, 0, 0, 1⟩ 5))] ⟨2, [(0, some ⟨true, (PlanV.cs p), 0⟩), (1, some ⟨true, (OpV.cs o), 0⟩)]⟩ [2, 3, 5] [0, 1] Z := EvC.of (by kernel_rfl) h
def vq16Check_8 (p : PlanV) (o : OpV) : Prop := vq16Check_7 p o
theorem pq16Check_8 (p : PlanV) (o : OpV) (hK : Kf (.int .i64 (PlanV.opCode p o)) ⟨0, []⟩) (h : vq16Check_8 p o) : SemL Try.prog w0 fp ρi 0 38 [cq16Check_n10, (.seq (.seq cq16Check_n11 cq16Check_n13) (.seq cq16Check_n14 (.seq cq16Check_n15 .ret)))] [(2, some (.ptr ⟨0, 0, 0, 1⟩ 46)), (3, some (.ptr ⟨1, 0, 0, 1⟩ 5))] ⟨2, [(0, some ⟨true, (PlanV.cs p), 0⟩), (1, some ⟨true, (OpV.cs o), 0⟩)]⟩ (fnK Rq16Check 0 Kf) :=
  L_regE hGq16Check (rq16Check_8 p o (fun e H => SemL Try.prog w0 fp ρi 0 38 [(.seq (.seq cq16Check_n11 cq16Check_n13) (.seq cq16Check_n14 (.seq cq16Check_n15 .ret)))] e H (fnK Rq16Check 0 Kf)) (L_seq (L_seq (pq16Check_7 p o hK h))))
def vq16Check_9 (p : PlanV) (o : OpV) : Prop := ((o.okind == 6) = true → (vq16Check_2 p o)) ∧ ((o.okind == 6) = false → (vq16Check_8 p o))
theorem pq16Check_9 (p : PlanV) (o : OpV) (hK : Kf (.int .i64 (PlanV.opCode p o)) ⟨0, []⟩) (h : vq16Check_9 p o) : SemL Try.prog w0 fp ρi 0 38 [cq16Check_n9, (.seq cq16Check_n10 (.seq (.seq cq16Check_n11 cq16Check_n13) (.seq cq16Check_n14 (.seq cq16Check_n15 .ret))))] [(2, some (.ptr ⟨0, 0, 0, 1⟩ 46)), (3, some (.ptr ⟨1, 0, 0, 1⟩ 5)), (22, some (.bool (o.okind == 6)))] ⟨2, [(0, some ⟨true, (PlanV.cs p), 0⟩), (1, some ⟨true, (OpV.cs o), 0⟩)]⟩ (fnK Rq16Check 0 Kf) :=
  L_cond (q := (o.okind == 6)) (by kernel_rfl) (fun hq => (L_seq (L_pick (e' := []) (H' := ⟨2, []⟩) [] [] (by kernel_rfl) (by kernel_rfl) (pq16Check_2 p o hK (h.1 hq))))) (fun hq => (L_skip (L_pick (e' := [(2, some (.ptr ⟨0, 0, 0, 1⟩ 46)), (3, some (.ptr ⟨1, 0, 0, 1⟩ 5))]) (H' := ⟨2, [(0, some ⟨true, (PlanV.cs p), 0⟩), (1, some ⟨true, (OpV.cs o), 0⟩)]⟩) [2, 3] [0, 1] (by kernel_rfl) (by kernel_rfl) (L_seq (pq16Check_8 p o hK (h.2 hq))))))
theorem rq16Check_10 (p : PlanV) (o : OpV) (Z : Env → Heap → Prop) (h : Z [(2, some (.ptr ⟨0, 0, 0, 1⟩ 46)), (3, some (.ptr ⟨1, 0, 0, 1⟩ 5)), (22, some (.bool (o.okind == 6)))] ⟨2, [(0, some ⟨true, (PlanV.cs p), 0⟩), (1, some ⟨true, (OpV.cs o), 0⟩)]⟩) : EvC Gq16Check cq16Check_n7 [(2, some (.ptr ⟨0, 0, 0, 1⟩ 46)), (3, some (.ptr ⟨1, 0, 0, 1⟩ 5))] ⟨2, [(0, some ⟨true, (PlanV.cs p), 0⟩), (1, some ⟨true, (OpV.cs o), 0⟩)]⟩ [2, 3, 22] [0, 1] Z := EvC.of (by kernel_rfl) h
def vq16Check_10 (p : PlanV) (o : OpV) : Prop := vq16Check_9 p o
theorem pq16Check_10 (p : PlanV) (o : OpV) (hK : Kf (.int .i64 (PlanV.opCode p o)) ⟨0, []⟩) (h : vq16Check_10 p o) : SemL Try.prog w0 fp ρi 0 38 [cq16Check_n7, cq16Check_n9, (.seq cq16Check_n10 (.seq (.seq cq16Check_n11 cq16Check_n13) (.seq cq16Check_n14 (.seq cq16Check_n15 .ret))))] [(2, some (.ptr ⟨0, 0, 0, 1⟩ 46)), (3, some (.ptr ⟨1, 0, 0, 1⟩ 5))] ⟨2, [(0, some ⟨true, (PlanV.cs p), 0⟩), (1, some ⟨true, (OpV.cs o), 0⟩)]⟩ (fnK Rq16Check 0 Kf) :=
  L_regE hGq16Check (rq16Check_10 p o (fun e H => SemL Try.prog w0 fp ρi 0 38 [cq16Check_n9, (.seq cq16Check_n10 (.seq (.seq cq16Check_n11 cq16Check_n13) (.seq cq16Check_n14 (.seq cq16Check_n15 .ret))))] e H (fnK Rq16Check 0 Kf)) (pq16Check_9 p o hK h))
def vq16Check_11 (p : PlanV) (o : OpV) : Prop := (((decide (o.okind < 1)) || (decide (6 < o.okind))) = true → (vq16Check_1 p o)) ∧ (((decide (o.okind < 1)) || (decide (6 < o.okind))) = false → (vq16Check_10 p o))
theorem pq16Check_11 (p : PlanV) (o : OpV) (hK : Kf (.int .i64 (PlanV.opCode p o)) ⟨0, []⟩) (h : vq16Check_11 p o) : SemL Try.prog w0 fp ρi 0 38 [cq16Check_n6, (.seq (.seq cq16Check_n7 cq16Check_n9) (.seq cq16Check_n10 (.seq (.seq cq16Check_n11 cq16Check_n13) (.seq cq16Check_n14 (.seq cq16Check_n15 .ret)))))] [(2, some (.ptr ⟨0, 0, 0, 1⟩ 46)), (3, some (.ptr ⟨1, 0, 0, 1⟩ 5)), (19, some (.bool ((decide (o.okind < 1)) || (decide (6 < o.okind)))))] ⟨2, [(0, some ⟨true, (PlanV.cs p), 0⟩), (1, some ⟨true, (OpV.cs o), 0⟩)]⟩ (fnK Rq16Check 0 Kf) :=
  L_cond (q := ((decide (o.okind < 1)) || (decide (6 < o.okind)))) (by kernel_rfl) (fun hq => (L_seq (L_pick (e' := []) (H' := ⟨2, []⟩) [] [] (by kernel_rfl) (by kernel_rfl) (pq16Check_1 p o hK (h.1 hq))))) (fun hq => (L_skip (L_pick (e' := [(2, some (.ptr ⟨0, 0, 0, 1⟩ 46)), (3, some (.ptr ⟨1, 0, 0, 1⟩ 5))]) (H' := ⟨2, [(0, some ⟨true, (PlanV.cs p), 0⟩), (1, some ⟨true, (OpV.cs o), 0⟩)]⟩) [2, 3] [0, 1] (by kernel_rfl) (by kernel_rfl) (L_seq (L_seq (pq16Check_10 p o hK (h.2 hq)))))))
theorem rq16Check_12 (p : PlanV) (o : OpV) (Z : Env → Heap → Prop) (h : ∃ qq : Bool, ((decide (o.okind < 1)) = false → (keeps ⟨2, [(0, some ⟨true, (PlanV.cs p), 0⟩), (1, some ⟨true, (OpV.cs o), 0⟩)]⟩ ⟨2, [(0, some ⟨true, (PlanV.cs p), 0⟩), (1, some ⟨true, (OpV.cs o), 0⟩)]⟩ [(0, some ⟨true, (PlanV.cs p), 0⟩), (1, some ⟨true, (OpV.cs o), 0⟩)]) ∧ (decide (6 < o.okind)) = qq) ∧ ((decide (o.okind < 1)) = true → true = qq) ∧ Z [(2, some (.ptr ⟨0, 0, 0, 1⟩ 46)), (3, some (.ptr ⟨1, 0, 0, 1⟩ 5)), (19, some (.bool qq))] ⟨2, [(0, some ⟨true, (PlanV.cs p), 0⟩), (1, some ⟨true, (OpV.cs o), 0⟩)]⟩) : EvC Gq16Check cq16Check_n4 [(2, some (.ptr ⟨0, 0, 0, 1⟩ 46)), (3, some (.ptr ⟨1, 0, 0, 1⟩ 5))] ⟨2, [(0, some ⟨true, (PlanV.cs p), 0⟩), (1, some ⟨true, (OpV.cs o), 0⟩)]⟩ [2, 3, 19] [0, 1] Z := EvC.of (by kernel_rfl) h
def vq16Check_12 (p : PlanV) (o : OpV) : Prop := vq16Check_11 p o
theorem pq16Check_12 (p : PlanV) (o : OpV) (hK : Kf (.int .i64 (PlanV.opCode p o)) ⟨0, []⟩) (h : vq16Check_12 p o) : SemL Try.prog w0 fp ρi 0 38 [cq16Check_n4, cq16Check_n6, (.seq (.seq cq16Check_n7 cq16Check_n9) (.seq cq16Check_n10 (.seq (.seq cq16Check_n11 cq16Check_n13) (.seq cq16Check_n14 (.seq cq16Check_n15 .ret)))))] [(2, some (.ptr ⟨0, 0, 0, 1⟩ 46)), (3, some (.ptr ⟨1, 0, 0, 1⟩ 5))] ⟨2, [(0, some ⟨true, (PlanV.cs p), 0⟩), (1, some ⟨true, (OpV.cs o), 0⟩)]⟩ (fnK Rq16Check 0 Kf) :=
  L_regE hGq16Check (rq16Check_12 p o (fun e H => SemL Try.prog w0 fp ρi 0 38 [cq16Check_n6, (.seq (.seq cq16Check_n7 cq16Check_n9) (.seq cq16Check_n10 (.seq (.seq cq16Check_n11 cq16Check_n13) (.seq cq16Check_n14 (.seq cq16Check_n15 .ret)))))] e H (fnK Rq16Check 0 Kf)) ⟨((decide (o.okind < 1)) || (decide (6 < o.okind))), fun hc_qq => ⟨(keeps_refl _), (qo1 hc_qq)⟩, fun hc_qq => qo2 hc_qq, (pq16Check_11 p o hK h)⟩)
def vq16Check_13 (p : PlanV) (o : OpV) : Prop := ((!(PlanV.right p)) = true → (vq16Check_0 p o)) ∧ ((!(PlanV.right p)) = false → (vq16Check_12 p o))
theorem pq16Check_13 (p : PlanV) (o : OpV) (hK : Kf (.int .i64 (PlanV.opCode p o)) ⟨0, []⟩) (h : vq16Check_13 p o) : SemL Try.prog w0 fp ρi 0 38 [cq16Check_n3, (.seq (.seq cq16Check_n4 cq16Check_n6) (.seq (.seq cq16Check_n7 cq16Check_n9) (.seq cq16Check_n10 (.seq (.seq cq16Check_n11 cq16Check_n13) (.seq cq16Check_n14 (.seq cq16Check_n15 .ret))))))] [(2, some (.ptr ⟨0, 0, 0, 1⟩ 46)), (3, some (.ptr ⟨1, 0, 0, 1⟩ 5)), (11, some (.bool (!(PlanV.right p))))] ⟨2, [(0, some ⟨true, (PlanV.cs p), 0⟩), (1, some ⟨true, (OpV.cs o), 0⟩)]⟩ (fnK Rq16Check 0 Kf) :=
  L_cond (q := (!(PlanV.right p))) (by kernel_rfl) (fun hq => (L_seq (L_pick (e' := []) (H' := ⟨2, []⟩) [] [] (by kernel_rfl) (by kernel_rfl) (pq16Check_0 p o hK (h.1 hq))))) (fun hq => (L_skip (L_pick (e' := [(2, some (.ptr ⟨0, 0, 0, 1⟩ 46)), (3, some (.ptr ⟨1, 0, 0, 1⟩ 5))]) (H' := ⟨2, [(0, some ⟨true, (PlanV.cs p), 0⟩), (1, some ⟨true, (OpV.cs o), 0⟩)]⟩) [2, 3] [0, 1] (by kernel_rfl) (by kernel_rfl) (L_seq (L_seq (pq16Check_12 p o hK (h.2 hq)))))))
theorem rq16Check_14 (p : PlanV) (o : OpV) (Z : Env → Heap → Prop) (h : (True) ∧ Z [(2, some (.ptr ⟨0, 0, 0, 1⟩ 46)), (3, some (.ptr ⟨1, 0, 0, 1⟩ 5)), (11, some (.bool (!(PlanV.right p))))] ⟨2, [(0, some ⟨true, (PlanV.cs p), 0⟩), (1, some ⟨true, (OpV.cs o), 0⟩)]⟩) : EvC Gq16Check cq16Check_n1 [(2, some (.ptr ⟨0, 0, 0, 1⟩ 46)), (3, some (.ptr ⟨1, 0, 0, 1⟩ 5))] ⟨2, [(0, some ⟨true, (PlanV.cs p), 0⟩), (1, some ⟨true, (OpV.cs o), 0⟩)]⟩ [2, 3, 11] [0, 1] Z := EvC.of (by kernel_rfl) h
def vq16Check_14 (p : PlanV) (o : OpV) : Prop := vq16Check_13 p o
theorem pq16Check_14 (p : PlanV) (o : OpV) (hK : Kf (.int .i64 (PlanV.opCode p o)) ⟨0, []⟩) (h : vq16Check_14 p o) : SemL Try.prog w0 fp ρi 0 38 [cq16Check_n1, cq16Check_n3, (.seq (.seq cq16Check_n4 cq16Check_n6) (.seq (.seq cq16Check_n7 cq16Check_n9) (.seq cq16Check_n10 (.seq (.seq cq16Check_n11 cq16Check_n13) (.seq cq16Check_n14 (.seq cq16Check_n15 .ret))))))] [(2, some (.ptr ⟨0, 0, 0, 1⟩ 46)), (3, some (.ptr ⟨1, 0, 0, 1⟩ 5))] ⟨2, [(0, some ⟨true, (PlanV.cs p), 0⟩), (1, some ⟨true, (OpV.cs o), 0⟩)]⟩ (fnK Rq16Check 0 Kf) :=
  L_regE hGq16Check (rq16Check_14 p o (fun e H => SemL Try.prog w0 fp ρi 0 38 [cq16Check_n3, (.seq (.seq cq16Check_n4 cq16Check_n6) (.seq (.seq cq16Check_n7 cq16Check_n9) (.seq cq16Check_n10 (.seq (.seq cq16Check_n11 cq16Check_n13) (.seq cq16Check_n14 (.seq cq16Check_n15 .ret))))))] e H (fnK Rq16Check 0 Kf)) ⟨True.intro, (pq16Check_13 p o hK h)⟩)
theorem rq16Check_15 (p : PlanV) (o : OpV) (Z : Env → Heap → Prop) (h : Z [(2, some (.ptr ⟨0, 0, 0, 1⟩ 46)), (3, some (.ptr ⟨1, 0, 0, 1⟩ 5))] ⟨2, [(0, some ⟨true, (PlanV.cs p), 0⟩), (1, some ⟨true, (OpV.cs o), 0⟩)]⟩) : EvC Gq16Check cq16Check_n0 [(0, some (.agg (PlanV.cs p))), (1, some (.agg (OpV.cs o)))] ⟨0, []⟩ [2, 3] [0, 1] Z := EvC.of (by kernel_rfl) h
def vq16Check_15 (p : PlanV) (o : OpV) : Prop := vq16Check_14 p o
theorem pq16Check_15 (p : PlanV) (o : OpV) (hK : Kf (.int .i64 (PlanV.opCode p o)) ⟨0, []⟩) (h : vq16Check_15 p o) : SemL Try.prog w0 fp ρi 0 38 [cq16Check_n0, (.seq (.seq cq16Check_n1 cq16Check_n3) (.seq (.seq cq16Check_n4 cq16Check_n6) (.seq (.seq cq16Check_n7 cq16Check_n9) (.seq cq16Check_n10 (.seq (.seq cq16Check_n11 cq16Check_n13) (.seq cq16Check_n14 (.seq cq16Check_n15 .ret)))))))] [(0, some (.agg (PlanV.cs p))), (1, some (.agg (OpV.cs o)))] ⟨0, []⟩ (fnK Rq16Check 0 Kf) :=
  L_regE hGq16Check (rq16Check_15 p o (fun e H => SemL Try.prog w0 fp ρi 0 38 [(.seq (.seq cq16Check_n1 cq16Check_n3) (.seq (.seq cq16Check_n4 cq16Check_n6) (.seq (.seq cq16Check_n7 cq16Check_n9) (.seq cq16Check_n10 (.seq (.seq cq16Check_n11 cq16Check_n13) (.seq cq16Check_n14 (.seq cq16Check_n15 .ret)))))))] e H (fnK Rq16Check 0 Kf)) (L_seq (L_seq (pq16Check_14 p o hK h))))
def vcq16Check (p : PlanV) (o : OpV) : Prop := vq16Check_15 p o
theorem wq16Check (p : PlanV) (o : OpV) (hK : Kf (.int .i64 (PlanV.opCode p o)) ⟨0, []⟩) (h : vcq16Check p o) : SemL Try.prog w0 fp ρi 0 38 [cq16Check] [(0, some (.agg (PlanV.cs p))), (1, some (.agg (OpV.cs o)))] ⟨0, []⟩ (fnK Rq16Check 0 Kf) :=
  (L_seq (pq16Check_15 p o hK h))
end
theorem okq16Check (p : PlanV) (o : OpV) (hpre : (OpV.Wf o)) : vcq16Check p o := by
  unfold vcq16Check vq16Check_15 vq16Check_14 vq16Check_13 vq16Check_12 vq16Check_11 vq16Check_10 vq16Check_9 vq16Check_8 vq16Check_7 vq16Check_6 vq16Check_5 vq16Check_4 vq16Check_3 vq16Check_2 vq16Check_1 vq16Check_0
  obtain ⟨w1, w2, w3, w4, w5⟩ := hpre
  have i1 : I64 1 := by unfold I64; decide
  refine ⟨fun h => (PlanV.opc4 (not_t h)).symm, fun h => ?_⟩
  have hr := not_f h
  refine ⟨fun h => ?_, fun h => ?_⟩
  · simp only [Bool.or_eq_true, decide_eq_true_eq] at h
    exact (PlanV.opc1 hr (by omega)).symm
  simp only [Bool.or_eq_false_iff, decide_eq_false_iff_not] at h
  simp only [beq_iff_eq, beq_eq_false_iff_ne, ne_eq]
  refine ⟨fun h6 => (PlanV.opc0 hr h6).symm, fun h6 => ⟨fun h5 => ⟨⟨w2, i1⟩, ?_⟩, fun h5 => ⟨⟨w2, w3⟩, ?_⟩⟩⟩
  · rintro _ rfl
    exact (PlanV.opcF hr h5).symm
  · rintro _ rfl
    exact (PlanV.opcE hr (by omega) (by omega)).symm
theorem sq16Check : Sound Try.prog 107 (pureS Pq16Check) := by
  refine fn_soundA cq16Check_fits ?_
  intro args H K h
  obtain ⟨pre, v, hP, hpre, rfl, hK⟩ := pureS_inv h
  unfold Pq16Check at hP
  split at hP
  · obtain ⟨hb, hP⟩ := bif_some hP
    simp only [Bool.and_eq_true] at hb
    obtain ⟨h0, h1⟩ := hb
    obtain rfl := Nat.eq_of_beq_eq_true h0
    obtain rfl := Nat.eq_of_beq_eq_true h1
    cases hP
    exact ⟨rfl, fun w0 fp ρi => wq16Check (PlanV.mk _ _ _ _ _ _ _ _ _ _ _ _ _ _ _ _) (OpV.mk _ _ _ _ _) hK (okq16Check (PlanV.mk _ _ _ _ _ _ _ _ _ _ _ _ _ _ _ _) (OpV.mk _ _ _ _ _) hpre)⟩
  · cases hP
def PwLine : PSpec := fun args => match args with
  | [.agg [.one (.int .i64 p_0), .one (.int .i64 p_1), .one (.int .i64 p_2), .one (.int .i64 p_3), .one (.int .i64 p_4), .one (.int .i64 p_5), .one (.int .u64 p_6), .one (.int .i64 p_7), .one (.int .i64 p_8), .one (.int .i64 p_9), .one (.int .i64 p_10), .one (.int .i64 p_11), .one (.int .i64 p_12), .one (.int .i64 p_13), .ints .u8 p_14_n p_14, .ints .u8 p_15_n p_15], .agg [.one (.int .i64 o_0), .one (.int .i64 o_1), .one (.int .i64 o_2), .one (.int .u64 o_3), .one (.int .u64 o_4)]] => bif Nat.beq p_14_n 16 && Nat.beq p_15_n 16 then some ((OpV.Wf (OpV.mk o_0 o_1 o_2 o_3 o_4)), .tuple [.int .i64 (PlanV.opLine (PlanV.mk p_0 p_1 p_2 p_3 p_4 p_5 p_6 p_7 p_8 p_9 p_10 p_11 p_12 p_13 p_14 p_15) (OpV.mk o_0 o_1 o_2 o_3 o_4)), .bool (PlanV.opB (PlanV.mk p_0 p_1 p_2 p_3 p_4 p_5 p_6 p_7 p_8 p_9 p_10 p_11 p_12 p_13 p_14 p_15) (OpV.mk o_0 o_1 o_2 o_3 o_4))]) else none
  | _ => none
def pcwLine : PCon := ⟨108, PwLine⟩
def cwLine_n0 : ACode := .reg (.op (some 2) (.box (.tm 0)) (.op (some 3) (.box (.tm 1)) (.op (some 4) (.mov (.cn (.int .i64 0))) (.op (some 5) (.mov (.cn (.bool false))) .nil))))
def cwLine_n1 : ACode := .reg (.op (some 6) (.loadA 46 (.tm 2)) (.op (some 7) (.loadA 5 (.tm 3)) (.op (some 8) (.call 109 [(.tm 6), (.tm 7)]) (.op (some 9) (.bin .neq (.tm 8) (.cn (.int .i64 0))) (.op (some 10) (.mov (.tm 9)) (.grpJ 10 false (.op (some 11) (.fieldAddr (.tm 3) 0 1) (.op (some 12) (.load1 (.tm 11)) (.op (some 13) (.bin .eql (.tm 12) (.cn (.int .i64 6))) .nil))) 14 (.tm 13) (.cn (.bool true)) .nil))))))
def cwLine_n2 : ACode := .reg (.op (some 4) (.mov (.cn (.int .i64 0))) (.op (some 5) (.mov (.cn (.bool false))) .nil))
def cwLine_n3 : ACode := .cond (.tm 14) (.seq cwLine_n2 .ret) .skip
def cwLine_n4 : ACode := .reg (.op (some 15) (.fieldAddr (.tm 3) 1 1) (.op (some 16) (.load1 (.tm 15)) (.op (some 17) (.bin .quo (.tm 16) (.cn (.int .i64 32))) (.op (some 4) (.mov (.tm 17)) (.op (some 5) (.mov (.cn (.bool true))) .nil)))))
def cwLine : ACode := (.seq cwLine_n0 (.seq (.seq cwLine_n1 cwLine_n3) (.seq cwLine_n4 .ret)))
def RwLine : Res := .many [.tm 4, .tm 5]
theorem cwLine_fits : fnFits Try.prog 108 2 18 cwLine RwLine = true := by kernel_rfl
def GwLine : Calls' := withP [pcwCheck] []
theorem hGwLine : CallOk Try.prog GwLine := withP_ok ⟨swCheck, trivial⟩ trivial
section
variable {w0 : World} {fp : Nat → Nat → Prop} {ρi : Rho} {Kf : SVal → Heap → Prop}
theorem rwLine_0 (p : PlanV) (o : OpV) (Z : Env → Heap → Prop) (h : Z [(4, some (.int .i64 0)), (5, some (.bool false))] ⟨2, []⟩) : EvC GwLine cwLine_n2 [] ⟨2, []⟩ [4, 5] [] Z := EvC.of (by kernel_rfl) h
theorem rtwLine_0 (p : PlanV) (o : OpV) : RetC RwLine [(4, some (.int .i64 0)), (5, some (.bool false))] ⟨2, []⟩ (.tuple [.int .i64 0, .bool false]) := RetC.of (fun Z => by kernel_rfl)
def vwLine_0 (p : PlanV) (o : OpV) : Prop := (0 = (PlanV.opLine p o)) ∧ (false = (PlanV.opB p o))
theorem pwLine_0 (p : PlanV) (o : OpV) (hK : Kf (.tuple [.int .i64 (PlanV.opLine p o), .bool (PlanV.opB p o)]) ⟨0, []⟩) (h : vwLine_0 p o) : SemL Try.prog w0 fp ρi 0 18 [cwLine_n2, .ret, (.seq cwLine_n4 .ret)] [] ⟨2, []⟩ (fnK RwLine 0 Kf) :=
  L_regE hGwLine (rwLine_0 p o (fun e H => SemL Try.prog w0 fp ρi 0 18 [.ret, (.seq cwLine_n4 .ret)] e H (fnK RwLine 0 Kf)) (L_retE (R := RwLine) (m := 0) (Kf := Kf) (fun _ _ h => h) (rtwLine_0 p o) (ret_plain rfl (by kernel_rfl) (cg2 (fun (z1 : Int) (z2 : Bool) => (.tuple [.int .i64 z1, .bool z2] : SVal)) h.1 h.2) hK)))
theorem rwLine_1 (p : PlanV) (o : OpV) (Z : Env → Heap → Prop) (h : (((32 : Int) ≠ 0)) ∧ Z [(4, some (.int .i64 (IntKind.i64.wrap (Int.tdiv o.oat 32)))), (5, some (.bool true))] ⟨2, []⟩) : EvC GwLine cwLine_n4 [(3, some (.ptr ⟨1, 0, 0, 1⟩ 5))] ⟨2, [(1, some ⟨true, (OpV.cs o), 0⟩)]⟩ [4, 5] [] Z := EvC.of (by kernel_rfl) h
theorem rtwLine_1 (p : PlanV) (o : OpV) : RetC RwLine [(4, some (.int .i64 (IntKind.i64.wrap (Int.tdiv o.oat 32)))), (5, some (.bool true))] ⟨2, []⟩ (.tuple [.int .i64 (IntKind.i64.wrap (Int.tdiv o.oat 32)), .bool true]) := RetC.of (fun Z => by kernel_rfl)
def vwLine_1 (p : PlanV) (o : OpV) : Prop := ((IntKind.i64.wrap (Int.tdiv o.oat 32)) = (PlanV.opLine p o)) ∧ (true = (PlanV.opB p o))
theorem pwLine_1 (p : PlanV) (o : OpV) (hK : Kf (.tuple [.int .i64 (PlanV.opLine p o), .bool (PlanV.opB p o)]) ⟨0, []⟩) (h : vwLine_1 p o) : SemL Try.prog w0 fp ρi 0 18 [cwLine_n4, .ret] [(3, some (.ptr ⟨1, 0, 0, 1⟩ 5))] ⟨2, [(1, some ⟨true, (OpV.cs o), 0⟩)]⟩ (fnK RwLine 0 Kf) :=
  L_regE hGwLine (rwLine_1 p o (fun e H => SemL Try.prog w0 fp ρi 0 18 [.ret] e H (fnK RwLine 0 Kf)) ⟨(by decide), (L_retE (R := RwLine) (m := 0) (Kf := Kf) (fun _ _ h => h) (rtwLine_1 p o) (ret_plain rfl (by kernel_rfl) (cg2 (fun (z1 : Int) (z2 : Bool) => (.tuple [.int .i64 z1, .bool z2] : SVal)) h.1 h.2) hK))⟩)
def vwLine_2 (p : PlanV) (o : OpV) : Prop := ((((PlanV.opCode p o) != 0) || (o.okind == 6)) = true → (vwLine_0 p o)) ∧ ((((PlanV.opCode p o) != 0) || (o.okind == 6)) = false → (vwLine_1 p o))
theorem pwLine_2 (p : PlanV) (o : OpV) (hK : Kf (.tuple [.int .i64 (PlanV.opLine p o), .bool (PlanV.opB p o)]) ⟨0, []⟩) (h : vwLine_2 p o) : SemL Try.prog w0 fp ρi 0 18 [cwLine_n3, (.seq cwLine_n4 .ret)] [(3, some (.ptr ⟨1, 0, 0, 1⟩ 5)), (14, some (.bool (((PlanV.opCode p o) != 0) || (o.okind == 6))))] ⟨2, [(1, some ⟨true, (OpV.cs o), 0⟩)]⟩ (fnK RwLine 0 Kf) :=
  L_cond (q := (((PlanV.opCode p o) != 0) || (o.okind == 6))) (by kernel_rfl) (fun hq => (L_seq (L_pick (e' := []) (H' := ⟨2, []⟩) [] [] (by kernel_rfl) (by kernel_rfl) (pwLine_0 p o hK (h.1 hq))))) (fun hq => (L_skip (L_pick (e' := [(3, some (.ptr ⟨1, 0, 0, 1⟩ 5))]) (H' := ⟨2, [(1, some ⟨true, (OpV.cs o), 0⟩)]⟩) [3] [1] (by kernel_rfl) (by kernel_rfl) (L_seq (pwLine_1 p o hK (h.2 hq))))))
theorem rwLine_3 (p : PlanV) (o : OpV) (Z : Env → Heap → Prop) (h : ((OpV.Wf o)) ∧ ∃ qq : Bool, (((PlanV.opCode p o) != 0) = false → (keeps ⟨2, [(0, some ⟨true, (PlanV.cs p), 0⟩), (1, some ⟨true, (OpV.cs o), 0⟩)]⟩ ⟨2, [(0, some ⟨true, (PlanV.cs p), 0⟩), (1, some ⟨true, (OpV.cs o), 0⟩)]⟩ [(0, some ⟨true, (PlanV.cs p), 0⟩), (1, some ⟨true, (OpV.cs o), 0⟩)]) ∧ (o.okind == 6) = qq) ∧ (((PlanV.opCode p o) != 0) = true → true = qq) ∧ Z [(3, some (.ptr ⟨1, 0, 0, 1⟩ 5)), (14, some (.bool qq))] ⟨2, [(1, some ⟨true, (OpV.cs o), 0⟩)]⟩) : EvC GwLine cwLine_n1 [(2, some (.ptr ⟨0, 0, 0, 1⟩ 46)), (3, some (.ptr ⟨1, 0, 0, 1⟩ 5))] ⟨2, [(0, some ⟨true, (PlanV.cs p), 0⟩), (1, some ⟨true, (OpV.cs o), 0⟩)]⟩ [3, 14] [1] Z := EvC.of (by kernel_rfl) h
def vwLine_3 (p : PlanV) (o : OpV) : Prop := ((OpV.Wf o)) ∧ (vwLine_2 p o)
theorem pwLine_3 (p : PlanV) (o : OpV) (hK : Kf (.tuple [.int .i64 (PlanV.opLine p o), .bool (PlanV.opB p o)]) ⟨0, []⟩) (h : vwLine_3 p o) : SemL Try.prog w0 fp ρi 0 18 [cwLine_n1, cwLine_n3, (.seq cwLine_n4 .ret)] [(2, some (.ptr ⟨0, 0, 0, 1⟩ 46)), (3, some (.ptr ⟨1, 0, 0, 1⟩ 5))] ⟨2, [(0, some ⟨true, (PlanV.cs p), 0⟩), (1, some ⟨true, (OpV.cs o), 0⟩)]⟩ (fnK RwLine 0 Kf) :=
  L_regE hGwLine (rwLine_3 p o (fun e H => SemL Try.prog w0 fp ρi 0 18 [cwLine_n3, (.seq cwLine_n4 .ret)] e H (fnK RwLine 0 Kf)) ⟨h.1, ⟨(((PlanV.opCode p o) != 0) || (o.okind == 6)), fun hc_qq => ⟨(keeps_refl _), (qo1 hc_qq)⟩, fun hc_qq => qo2 hc_qq, (pwLine_2 p o hK h.2)⟩⟩)
theorem rwLine_4 (p : PlanV) (o : OpV) (Z : Env → Heap → Prop) (h : Z [(2, some (.ptr ⟨0, 0, 0, 1⟩ 46)), (3, some (.ptr ⟨1, 0, 0, 1⟩ 5))] ⟨2, [(0, some ⟨true, (PlanV.cs p), 0⟩), (1, some ⟨true, (OpV.cs o), 0⟩)]⟩) : EvC GwLine cwLine_n0 [(0, some (.agg (PlanV.cs p))), (1, some (.agg (OpV.cs o)))] ⟨0, []⟩ [2, 3] [0, 1] Z := EvC.of (by kernel_rfl) h
def vwLine_4 (p : PlanV) (o : OpV) : Prop := vwLine_3 p o
theorem pwLine_4 (p : PlanV) (o : OpV) (hK : Kf (.tuple [.int .i64 (PlanV.opLine p o), .bool (PlanV.opB p o)]) ⟨0, []⟩) (h : vwLine_4 p o) : SemL Try.prog w0 fp ρi 0 18 [cwLine_n0, (.seq (.seq cwLine_n1 cwLine_n3) (.seq cwLine_n4 .ret))] [(0, some (.agg (PlanV.cs p))), (1, some (.agg (OpV.cs o)))] ⟨0, []⟩ (fnK RwLine 0 Kf) :=
  L_regE hGwLine (rwLine_4 p o (fun e H => SemL Try.prog w0 fp ρi 0 18 [(.seq (.seq cwLine_n1 cwLine_n3) (.seq cwLine_n4 .ret))] e H (fnK RwLine 0 Kf)) (L_seq (L_seq (pwLine_3 p o hK h))))
def vcwLine (p : PlanV) (o : OpV) : Prop := vwLine_4 p o
theorem wwLine (p : PlanV) (o : OpV) (hK : Kf (.tuple [.int .i64 (PlanV.opLine p o), .bool (PlanV.opB p o)]) ⟨0, []⟩) (h : vcwLine p o) : SemL Try.prog w0 fp ρi 0 18 [cwLine] [(0, some (.agg (PlanV.cs p))), (1, some (.agg (OpV.cs o)))] ⟨0, []⟩ (fnK RwLine 0 Kf) :=
  (L_seq (pwLine_4 p o hK h))
end
theorem okwLine (p : PlanV) (o : OpV) (hpre : (OpV.Wf o)) : vcwLine p o := by
  unfold vcwLine vwLine_4 vwLine_3 vwLine_2 vwLine_1 vwLine_0
  refine ⟨hpre, ?_⟩
  have hc : (p.opCode o != 0 || o.okind == 6) = !(p.opB o) := by
    unfold PlanV.opB
    rw [show (p.opCode o != 0) = !(p.opCode o == 0) from rfl, Bool.not_and, Bool.not_not]
  rw [hc]
  refine ⟨fun h => ?_, fun h => ?_⟩
  · have h := not_t h
    unfold PlanV.opLine
    rw [h]; exact ⟨rfl, rfl⟩
  · have h := not_f h
    have hb := h
    unfold PlanV.opB at hb
    simp only [Bool.and_eq_true, beq_iff_eq, Bool.not_eq_true', beq_eq_false_iff_ne] at hb
    have hat := PlanV.opB_at hb.1 hb.2
    have ht : p.tags = p.all * 32 := rfl
    have ha := _root_.Go.Sx.PlanV.all_le p
    unfold PlanV.opLine
    rw [h, if_pos rfl, Int.tdiv_eq_ediv_of_nonneg hat.1, wi64]
    exact ⟨by omega, rfl⟩
theorem swLine : Sound Try.prog 108 (pureS PwLine) := by
  refine fn_soundA cwLine_fits ?_
  intro args H K h
  obtain ⟨pre, v, hP, hpre, rfl, hK⟩ := pureS_inv h
  unfold PwLine at hP
  split at hP
  · obtain ⟨hb, hP⟩ := bif_some hP
    simp only [Bool.and_eq_true] at hb
    obtain ⟨h0, h1⟩ := hb
    obtain rfl := Nat.eq_of_beq_eq_true h0
    obtain rfl := Nat.eq_of_beq_eq_true h1
    cases hP
    exact ⟨rfl, fun w0 fp ρi => wwLine (PlanV.mk _ _ _ _ _ _ _ _ _ _ _ _ _ _ _ _) (OpV.mk _ _ _ _ _) hK (okwLine (PlanV.mk _ _ _ _ _ _ _ _ _ _ _ _ _ _ _ _) (OpV.mk _ _ _ _ _) hpre)⟩
  · cases hP
end Go.Proofs.Ytlmcdbgcbmjilaa
