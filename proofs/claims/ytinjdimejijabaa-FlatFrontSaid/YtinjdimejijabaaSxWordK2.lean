/- Part of the proof: SxWordK2. -/
import Derived.Test.YtinjdimejijabaaSxRegN2
import Derived.Test.YtinjdimejijabaaSxWordK
import Derived.KernelRfl
set_option linter.unusedVariables false
set_option linter.unusedSimpArgs false
set_option maxRecDepth 20000
namespace Go.Proofs.Ytinjdimejijabaa
open Go.Sx
def Zn1 : Zfm := fun args => match args with
  | [.agg [.one (.int .i64 p_0), .one (.int .i64 p_1), .one (.int .i64 p_2), .one (.int .i64 p_3), .one (.int .i64 p_4), .one (.int .i64 p_5), .one (.int .u64 p_6), .one (.int .i64 p_7), .one (.int .i64 p_8), .one (.int .i64 p_9), .one (.int .i64 p_10), .one (.int .i64 p_11), .one (.int .i64 p_12), .one (.int .i64 p_13), .ints .u8 p_14_n p_14, .ints .u8 p_15_n p_15], .agg [.one (.int .i64 o_0), .one (.int .i64 o_1), .one (.int .i64 o_2), .one (.int .u64 o_3), .one (.int .u64 o_4)]] => bif Nat.beq p_14_n 16 && Nat.beq p_15_n 16 then some ((OpV.Wf (OpV.mk o_0 o_1 o_2 o_3 o_4)), .int .i64 (PlanV.opCode (PlanV.mk p_0 p_1 p_2 p_3 p_4 p_5 p_6 p_7 p_8 p_9 p_10 p_11 p_12 p_13 p_14 p_15) (OpV.mk o_0 o_1 o_2 o_3 o_4))) else none
  | _ => none
def Zoo : PCon := ⟨58, Zn1⟩
def ZnB : ACode := .reg (.op (some 2) (.box (.tm 0)) (.op (some 3) (.box (.tm 1)) (.op (some 4) (.mov (.cn (.int .i64 0))) .nil)))
def Zkg : ACode := .reg (.op (some 6) (.loadA 46 (.tm 2)) (.op (some 7) (.call 56 [(.tm 6)]) (.op (some 5) (.mov (.tm 7)) .nil)))
def Ziy : ACode := .reg (.op (some 8) (.mov (.tm 5)) (.op (some 9) (.bin .neq (.tm 8) (.cn (.int .i64 0))) .nil))
def ZnA : ACode := .reg (.op (some 10) (.mov (.tm 5)) (.op (some 4) (.mov (.tm 10)) .nil))
def Zix : ACode := .cond (.tm 9) (.seq ZnA .ret) .skip
def ZfG : ACode := .reg (.op (some 11) (.fieldAddr (.tm 3) 0 1) (.op (some 12) (.load1 (.tm 11)) .nil))
def Znz : ACode := .reg (.op (some 14) (.bin .eql (.tm 12) (.cn (.int .i64 6))) (.op (some 13) (.mov (.tm 14)) .nil))
def Zny : ACode := .cond (.tm 13) (.exit 1) .skip
def Ziw : ACode := .reg (.op (some 16) (.bin .eql (.tm 12) (.cn (.int .i64 5))) (.op (some 15) (.mov (.tm 16)) .nil))
def Ziv : ACode := .cond (.tm 15) (.exit 2) .skip
def Ze7 : ACode := .reg (.op (some 18) (.bin .eql (.tm 12) (.cn (.int .i64 1))) (.op (some 17) (.mov (.tm 18)) .nil))
def Zkf : ACode := .reg (.op (some 19) (.bin .eql (.tm 12) (.cn (.int .i64 2))) (.op (some 17) (.mov (.tm 19)) .nil))
def Zke : ACode := .reg (.op (some 20) (.bin .eql (.tm 12) (.cn (.int .i64 3))) (.op (some 17) (.mov (.tm 20)) .nil))
def Zkd : ACode := .reg (.op (some 21) (.bin .eql (.tm 12) (.cn (.int .i64 4))) (.op (some 17) (.mov (.tm 21)) .nil))
def Zkc : ACode := .cond (.tm 17) .skip Zkd
def Zkb : ACode := .cond (.tm 17) .skip (.seq Zke Zkc)
def Ze6 : ACode := .cond (.tm 17) .skip (.seq Zkf Zkb)
def ZcK : ACode := .cond (.tm 17) (.exit 3) .skip
def ZoF : ACode := .block 1 (.seq (.seq (.seq Znz Zny) (.seq (.seq Ziw Ziv) (.seq (.seq Ze7 Ze6) ZcK))) (.exit 0))
def Zg2 : ACode := .reg (.op (some 4) (.mov (.cn (.int .i64 0))) .nil)
def ZoE : ACode := .block 2 (.seq ZoF (.seq (.seq Zg2 .ret) (.exit 0)))
def Zg1 : ACode := .reg (.op (some 22) (.fieldAddr (.tm 3) 2 1) (.op none (.store1 (.tm 22) (.cn (.int .i64 1))) .nil))
def ZoD : ACode := .block 3 (.seq ZoE Zg1)
def Zg0 : ACode := .reg (.op (some 24) (.loadA 46 (.tm 2)) (.op (some 25) (.fieldAddr (.tm 3) 1 1) (.op (some 26) (.load1 (.tm 25)) (.op (some 27) (.fieldAddr (.tm 3) 2 1) (.op (some 28) (.load1 (.tm 27)) (.op (some 29) (.call 73 [(.tm 24), (.tm 26), (.tm 28)]) (.op (some 23) (.mov (.tm 29)) (.op (some 30) (.extract (.tm 23) 0) (.op (some 31) (.extract (.tm 23) 1) (.op (some 32) (.extract (.tm 23) 2) (.op (some 4) (.mov (.tm 32)) .nil)))))))))))
def Zf7 : ACode := .reg (.op (some 33) (.mov (.tm 4)) (.op (some 4) (.mov (.tm 33)) .nil))
def Zej : ACode := .block 0 (.seq ZoD (.seq (.seq Zg0 (.seq Zf7 .ret)) (.exit 0)))
def Zc6 : ACode := .reg (.op (some 4) (.mov (.cn (.int .i64 1))) .nil)
def Zr1 : ACode := (.seq ZnB (.seq (.seq Zkg (.seq Ziy Zix)) (.seq (.seq ZfG Zej) (.seq Zc6 .ret))))
def Zcp : Res := .one (.tm 4)
theorem Zln : ZbJ Try.prog 58 2 34 Zr1 Zcp = true := by kernel_rfl
def ZcG : Za7 := Zfk [Zjx, Zrt] []
theorem Zcj : Zbb Try.prog ZcG := Zch ⟨ZmN, ZsH, trivial⟩ trivial
section
variable {w0 : World} {fp : Nat -> Nat -> Prop} {ρi : Rho} {Kf : SVal -> Heap -> Prop}
abbrev Yc0 (x0 : Int) : Env := [(4, some (.int .i64 x0))]
abbrev Yc1 : Heap := ⟨2, []⟩
theorem Zyg (p : PlanV) (o : OpV) (v5 : Int) (Z : Env -> Heap -> Prop) (h : Z (Yc0 v5) Yc1) : EvC ZcG ZnA [(5, some (.int .i64 v5))] Yc1 [4] [] Z := EvC.of (by kernel_rfl) h
theorem Zvd (p : PlanV) (o : OpV) (v5 : Int) : RetC Zcp (Yc0 v5) Yc1 (.int .i64 v5) := RetC.of (fun Z => by kernel_rfl)
def Zqv (p : PlanV) (o : OpV) (v5 : Int) : Prop := v5 = (PlanV.opCode p o)
abbrev Yc2 : Heap := ⟨0, []⟩
abbrev Yc3 (x0 : SVal -> Heap -> Prop) (x1 : PlanV) (x2 : OpV) : Prop := x0 (.int .i64 (PlanV.opCode x1 x2)) ⟨0, []⟩
theorem Zz8 (p : PlanV) (o : OpV) (hK : (Yc3 Kf p o)) (v5 : Int) (h : Zqv p o v5) : SemL Try.prog w0 fp ρi 0 34 [ZnA, .ret, (.seq (.seq ZfG Zej) (.seq Zc6 .ret))] [(5, some (.int .i64 v5))] Yc1 (fnK Zcp 0 Kf) :=
  Zas Zcj (Zyg p o v5 _ (Zbz (R := Zcp) (m := 0) (Kf := Kf) (fun _ _ h => h) (Zvd p o v5) (Zbd rfl (by kernel_rfl) (cg1 (fun (z1 : Int) => (.int .i64 z1 : SVal)) h) hK)))
def Zig (w0 : World) (fp : Nat -> Nat -> Prop) (ρi : Rho) (Kf : SVal -> Heap -> Prop) (p : PlanV) (o : OpV) : Zgh := Zep 0 (fun e H => SemL Try.prog w0 fp ρi 0 34 [(.seq Zc6 .ret)] e H (fnK Zcp 0 Kf)) (fnK Zcp 0 Kf)
def ZjD (w0 : World) (fp : Nat -> Nat -> Prop) (ρi : Rho) (Kf : SVal -> Heap -> Prop) (p : PlanV) (o : OpV) : Zgh := Zep 3 (fun e H => SemL Try.prog w0 fp ρi 0 34 [(.seq (.seq Zg0 (.seq Zf7 .ret)) (.exit 0))] e H (Zig w0 fp ρi Kf p o)) (Zig w0 fp ρi Kf p o)
def ZjC (w0 : World) (fp : Nat -> Nat -> Prop) (ρi : Rho) (Kf : SVal -> Heap -> Prop) (p : PlanV) (o : OpV) : Zgh := Zep 2 (fun e H => SemL Try.prog w0 fp ρi 0 34 [Zg1] e H (ZjD w0 fp ρi Kf p o)) (ZjD w0 fp ρi Kf p o)
theorem Zyf (p : PlanV) (o : OpV) (Z : Env -> Heap -> Prop) (h : Z [(4, some (.int .i64 0))] Yc1) : EvC ZcG Zg2 [] Yc1 [4] [] Z := EvC.of (by kernel_rfl) h
theorem Zvc (p : PlanV) (o : OpV) : RetC Zcp [(4, some (.int .i64 0))] Yc1 (.int .i64 0) := RetC.of (fun Z => by kernel_rfl)
def Zqu (p : PlanV) (o : OpV) : Prop := 0 = (PlanV.opCode p o)
theorem Zz7 (p : PlanV) (o : OpV) (hK : (Yc3 Kf p o)) (h : Zqu p o) : SemL Try.prog w0 fp ρi 0 34 [Zg2, .ret, (.exit 0)] [] Yc1 (ZjC w0 fp ρi Kf p o) :=
  Zas Zcj (Zyf p o _ (Zbz (R := Zcp) (m := 0) (Kf := Kf) (fun _ _ h => h) (Zvc p o) (Zbd rfl (by kernel_rfl) (cg1 (fun (z1 : Int) => (.int .i64 z1 : SVal)) h) hK)))
theorem Zye (p : PlanV) (o : OpV) (v4 : Int) (Z : Env -> Heap -> Prop) (h : Z (Yc0 v4) Yc1) : EvC ZcG Zf7 (Yc0 v4) Yc1 [4] [] Z := EvC.of (by kernel_rfl) h
theorem Zvb (p : PlanV) (o : OpV) (v4 : Int) : RetC Zcp (Yc0 v4) Yc1 (.int .i64 v4) := RetC.of (fun Z => by kernel_rfl)
def Zqt (p : PlanV) (o : OpV) (v4 : Int) : Prop := v4 = (PlanV.opCode p o)
theorem Zz6 (p : PlanV) (o : OpV) (hK : (Yc3 Kf p o)) (v4 : Int) (h : Zqt p o v4) : SemL Try.prog w0 fp ρi 0 34 [Zf7, .ret, (.exit 0)] (Yc0 v4) Yc1 (Zig w0 fp ρi Kf p o) :=
  Zas Zcj (Zye p o v4 _ (Zbz (R := Zcp) (m := 0) (Kf := Kf) (fun _ _ h => h) (Zvb p o v4) (Zbd rfl (by kernel_rfl) (cg1 (fun (z1 : Int) => (.int .i64 z1 : SVal)) h) hK)))
abbrev Yc4 : Env := [(2, some (.ptr ⟨0, 0, 0, 1⟩ 46)), (3, some (.ptr ⟨1, 0, 0, 1⟩ 5))]
abbrev Yc5 (x0 : PlanV) (x1 : OpV) (x2 : Int) : Heap := ⟨2, [(0, some ⟨true, (PlanV.cs x0), 0⟩), (1, some ⟨true, [.one (.int .i64 x1.okind), .one (.int .i64 x1.oat), .one (.int .i64 x2), .one (.int .u64 x1.oval), .one (.int .u64 x1.owant)], 0⟩)]⟩
theorem Zyd (p : PlanV) (o : OpV) (aa : Int) (Z : Env -> Heap -> Prop) (h : ((I64 o.oat /\ I64 aa)) /\ Z [(4, some (.int .i64 (PlanV.codeOf p o.oat aa)))] Yc1) : EvC ZcG Zg0 Yc4 (Yc5 p o aa) [4] [] Z := EvC.of (by kernel_rfl) h
def Zob (p : PlanV) (o : OpV) (aa : Int) : Prop := ((I64 o.oat /\ I64 aa)) /\ (∀ v4 : Int, v4 = (PlanV.codeOf p o.oat aa) -> Zqt p o v4)
theorem Zts (p : PlanV) (o : OpV) (hK : (Yc3 Kf p o)) (aa : Int) (h : Zob p o aa) : SemL Try.prog w0 fp ρi 0 34 [Zg0, (.seq Zf7 .ret), (.exit 0)] Yc4 (Yc5 p o aa) (Zig w0 fp ρi Kf p o) :=
  Zas Zcj (Zyd p o aa _ ⟨h.1, (Zau (Zz6 p o hK (PlanV.codeOf p o.oat aa) (h.2 (PlanV.codeOf p o.oat aa) rfl)))⟩)
abbrev Yc6 (x0 : PlanV) (x1 : OpV) : Heap := ⟨2, [(0, some ⟨true, (PlanV.cs x0), 0⟩), (1, some ⟨true, (OpV.cs x1), 0⟩)]⟩
theorem Zyc (p : PlanV) (o : OpV) (Z : Env -> Heap -> Prop) (h : Z Yc4 ⟨2, [(0, some ⟨true, (PlanV.cs p), 0⟩), (1, some ⟨true, [.one (.int .i64 o.okind), .one (.int .i64 o.oat), .one (.int .i64 1), .one (.int .u64 o.oval), .one (.int .u64 o.owant)], 0⟩)]⟩) : EvC ZcG Zg1 Yc4 (Yc6 p o) [2, 3] [0, 1] Z := EvC.of (by kernel_rfl) h
def Zqs (p : PlanV) (o : OpV) : Prop := Zob p o 1
theorem Zz5 (p : PlanV) (o : OpV) (hK : (Yc3 Kf p o)) (h : Zqs p o) : SemL Try.prog w0 fp ρi 0 34 [Zg1] Yc4 (Yc6 p o) (ZjD w0 fp ρi Kf p o) :=
  Zas Zcj (Zyc p o _ (ZhP (Zau (Zau (Zts p o hK 1 h)))))
theorem Zyb (p : PlanV) (o : OpV) (Z : Env -> Heap -> Prop) (h : Z [(4, some (.int .i64 1))] Yc1) : EvC ZcG Zc6 [] Yc1 [4] [] Z := EvC.of (by kernel_rfl) h
theorem Zva (p : PlanV) (o : OpV) : RetC Zcp [(4, some (.int .i64 1))] Yc1 (.int .i64 1) := RetC.of (fun Z => by kernel_rfl)
def Zqr (p : PlanV) (o : OpV) : Prop := 1 = (PlanV.opCode p o)
theorem Zz4 (p : PlanV) (o : OpV) (hK : (Yc3 Kf p o)) (h : Zqr p o) : SemL Try.prog w0 fp ρi 0 34 [Zc6, .ret] [] Yc1 (fnK Zcp 0 Kf) :=
  Zas Zcj (Zyb p o _ (Zbz (R := Zcp) (m := 0) (Kf := Kf) (fun _ _ h => h) (Zva p o) (Zbd rfl (by kernel_rfl) (cg1 (fun (z1 : Int) => (.int .i64 z1 : SVal)) h) hK)))
def Zdv (w0 : World) (fp : Nat -> Nat -> Prop) (ρi : Rho) (Kf : SVal -> Heap -> Prop) (p : PlanV) (o : OpV) : Zgh := Zep 1 (fun e H => SemL Try.prog w0 fp ρi 0 34 [(.seq (.seq Zg2 .ret) (.exit 0))] e H (ZjC w0 fp ρi Kf p o)) (ZjC w0 fp ρi Kf p o)
def ZiT (p : PlanV) (o : OpV) (ab : Bool) : Prop := (ab = true -> (Zob p o o.on)) /\ (ab = false -> (Zqr p o))
theorem Zol (p : PlanV) (o : OpV) (hK : (Yc3 Kf p o)) (ab : Bool) (h : ZiT p o ab) : SemL Try.prog w0 fp ρi 0 34 [ZcK, (.exit 0)] [(2, some (.ptr ⟨0, 0, 0, 1⟩ 46)), (3, some (.ptr ⟨1, 0, 0, 1⟩ 5)), (17, some (.bool ab))] (Yc6 p o) (Zdv w0 fp ρi Kf p o) :=
  ZbD (q := ab) (by kernel_rfl) (fun hq => (Zjj (lpk [2, 3] [0, 1] (Zau (Zau (Zts p o hK o.on (h.1 hq))))))) (fun hq => (Zcd (lpk [] [] (Zjj (Zau (Zz4 p o hK (h.2 hq)))))))
abbrev Yc7 (x0 : OpV) : Env := [(2, some (.ptr ⟨0, 0, 0, 1⟩ 46)), (3, some (.ptr ⟨1, 0, 0, 1⟩ 5)), (12, some (.int .i64 x0.okind))]
theorem Zya (p : PlanV) (o : OpV) (Z : Env -> Heap -> Prop) (h : Z [(2, some (.ptr ⟨0, 0, 0, 1⟩ 46)), (3, some (.ptr ⟨1, 0, 0, 1⟩ 5)), (17, some (.bool (o.okind == 4)))] (Yc6 p o)) : EvC ZcG Zkd (Yc7 o) (Yc6 p o) [2, 3, 17] [0, 1] Z := EvC.of (by kernel_rfl) h
def Zqq (p : PlanV) (o : OpV) : Prop := ∀ ab : Bool, ab = (o.okind == 4) -> ZiT p o ab
theorem Zz3 (p : PlanV) (o : OpV) (hK : (Yc3 Kf p o)) (h : Zqq p o) : SemL Try.prog w0 fp ρi 0 34 [Zkd, ZcK, (.exit 0)] (Yc7 o) (Yc6 p o) (Zdv w0 fp ρi Kf p o) :=
  Zas Zcj (Zya p o _ (Zol p o hK (o.okind == 4) (h (o.okind == 4) rfl)))
def Zqp (p : PlanV) (o : OpV) : Prop := ((o.okind == 3) = true -> (∀ ab : Bool, ab = (o.okind == 3) -> ZiT p o ab)) /\ ((o.okind == 3) = false -> (Zqq p o))
abbrev Yc8 (x0 : OpV) : Env := [(2, some (.ptr ⟨0, 0, 0, 1⟩ 46)), (3, some (.ptr ⟨1, 0, 0, 1⟩ 5)), (12, some (.int .i64 x0.okind)), (17, some (.bool (x0.okind == 3)))]
theorem Zz2 (p : PlanV) (o : OpV) (hK : (Yc3 Kf p o)) (h : Zqp p o) : SemL Try.prog w0 fp ρi 0 34 [Zkc, ZcK, (.exit 0)] (Yc8 o) (Yc6 p o) (Zdv w0 fp ρi Kf p o) :=
  ZbD (q := (o.okind == 3)) (by kernel_rfl) (fun hq => (Zcd (lpk [2, 3, 17] [0, 1] (Zol p o hK (o.okind == 3) ((h.1 hq) (o.okind == 3) rfl))))) (fun hq => (lpk [2, 3, 12] [0, 1] (Zz3 p o hK (h.2 hq))))
theorem Zx9 (p : PlanV) (o : OpV) (Z : Env -> Heap -> Prop) (h : Z (Yc8 o) (Yc6 p o)) : EvC ZcG Zke (Yc7 o) (Yc6 p o) [2, 3, 12, 17] [0, 1] Z := EvC.of (by kernel_rfl) h
def Zqo (p : PlanV) (o : OpV) : Prop := Zqp p o
theorem Zz1 (p : PlanV) (o : OpV) (hK : (Yc3 Kf p o)) (h : Zqo p o) : SemL Try.prog w0 fp ρi 0 34 [Zke, Zkc, ZcK, (.exit 0)] (Yc7 o) (Yc6 p o) (Zdv w0 fp ρi Kf p o) :=
  Zas Zcj (Zx9 p o _ (Zz2 p o hK h))
def Zmf (p : PlanV) (o : OpV) : Prop := ((o.okind == 2) = true -> (∀ ab : Bool, ab = (o.okind == 2) -> ZiT p o ab)) /\ ((o.okind == 2) = false -> (Zqo p o))
abbrev Yc9 (x0 : OpV) : Env := [(2, some (.ptr ⟨0, 0, 0, 1⟩ 46)), (3, some (.ptr ⟨1, 0, 0, 1⟩ 5)), (12, some (.int .i64 x0.okind)), (17, some (.bool (x0.okind == 2)))]
theorem Zv2 (p : PlanV) (o : OpV) (hK : (Yc3 Kf p o)) (h : Zmf p o) : SemL Try.prog w0 fp ρi 0 34 [Zkb, ZcK, (.exit 0)] (Yc9 o) (Yc6 p o) (Zdv w0 fp ρi Kf p o) :=
  ZbD (q := (o.okind == 2)) (by kernel_rfl) (fun hq => (Zcd (lpk [2, 3, 17] [0, 1] (Zol p o hK (o.okind == 2) ((h.1 hq) (o.okind == 2) rfl))))) (fun hq => (Zau (lpk [2, 3, 12] [0, 1] (Zz1 p o hK (h.2 hq)))))
theorem Zuw (p : PlanV) (o : OpV) (Z : Env -> Heap -> Prop) (h : Z (Yc9 o) (Yc6 p o)) : EvC ZcG Zkf (Yc7 o) (Yc6 p o) [2, 3, 12, 17] [0, 1] Z := EvC.of (by kernel_rfl) h
def Zme (p : PlanV) (o : OpV) : Prop := Zmf p o
theorem Zv1 (p : PlanV) (o : OpV) (hK : (Yc3 Kf p o)) (h : Zme p o) : SemL Try.prog w0 fp ρi 0 34 [Zkf, Zkb, ZcK, (.exit 0)] (Yc7 o) (Yc6 p o) (Zdv w0 fp ρi Kf p o) :=
  Zas Zcj (Zuw p o _ (Zv2 p o hK h))
def Zmd (p : PlanV) (o : OpV) : Prop := ((o.okind == 1) = true -> (∀ ab : Bool, ab = (o.okind == 1) -> ZiT p o ab)) /\ ((o.okind == 1) = false -> (Zme p o))
abbrev ZDr (x0 : OpV) : Env := [(2, some (.ptr ⟨0, 0, 0, 1⟩ 46)), (3, some (.ptr ⟨1, 0, 0, 1⟩ 5)), (12, some (.int .i64 x0.okind)), (17, some (.bool (x0.okind == 1)))]
theorem Zv0 (p : PlanV) (o : OpV) (hK : (Yc3 Kf p o)) (h : Zmd p o) : SemL Try.prog w0 fp ρi 0 34 [Ze6, ZcK, (.exit 0)] (ZDr o) (Yc6 p o) (Zdv w0 fp ρi Kf p o) :=
  ZbD (q := (o.okind == 1)) (by kernel_rfl) (fun hq => (Zcd (lpk [2, 3, 17] [0, 1] (Zol p o hK (o.okind == 1) ((h.1 hq) (o.okind == 1) rfl))))) (fun hq => (Zau (lpk [2, 3, 12] [0, 1] (Zv1 p o hK (h.2 hq)))))
theorem Zuv (p : PlanV) (o : OpV) (Z : Env -> Heap -> Prop) (h : Z (ZDr o) (Yc6 p o)) : EvC ZcG Ze7 (Yc7 o) (Yc6 p o) [2, 3, 12, 17] [0, 1] Z := EvC.of (by kernel_rfl) h
def Zmc (p : PlanV) (o : OpV) : Prop := Zmd p o
theorem ZvZ (p : PlanV) (o : OpV) (hK : (Yc3 Kf p o)) (h : Zmc p o) : SemL Try.prog w0 fp ρi 0 34 [Ze7, Ze6, ZcK, (.exit 0)] (Yc7 o) (Yc6 p o) (Zdv w0 fp ρi Kf p o) :=
  Zas Zcj (Zuv p o _ (Zv0 p o hK h))
def Zmb (p : PlanV) (o : OpV) : Prop := ((o.okind == 5) = true -> (Zqs p o)) /\ ((o.okind == 5) = false -> (Zmc p o))
abbrev ZDq (x0 : OpV) : Env := [(2, some (.ptr ⟨0, 0, 0, 1⟩ 46)), (3, some (.ptr ⟨1, 0, 0, 1⟩ 5)), (12, some (.int .i64 x0.okind)), (15, some (.bool (x0.okind == 5)))]
theorem ZvY (p : PlanV) (o : OpV) (hK : (Yc3 Kf p o)) (h : Zmb p o) : SemL Try.prog w0 fp ρi 0 34 [Ziv, (.seq (.seq Ze7 Ze6) ZcK), (.exit 0)] (ZDq o) (Yc6 p o) (Zdv w0 fp ρi Kf p o) :=
  ZbD (q := (o.okind == 5)) (by kernel_rfl) (fun hq => (Zjj (lpk [2, 3] [0, 1] (Zz5 p o hK (h.1 hq))))) (fun hq => (Zcd (lpk [2, 3, 12] [0, 1] (Zau (Zau (ZvZ p o hK (h.2 hq)))))))
theorem Zuu (p : PlanV) (o : OpV) (Z : Env -> Heap -> Prop) (h : Z (ZDq o) (Yc6 p o)) : EvC ZcG Ziw (Yc7 o) (Yc6 p o) [2, 3, 12, 15] [0, 1] Z := EvC.of (by kernel_rfl) h
def Zma (p : PlanV) (o : OpV) : Prop := Zmb p o
theorem ZvX (p : PlanV) (o : OpV) (hK : (Yc3 Kf p o)) (h : Zma p o) : SemL Try.prog w0 fp ρi 0 34 [Ziw, Ziv, (.seq (.seq Ze7 Ze6) ZcK), (.exit 0)] (Yc7 o) (Yc6 p o) (Zdv w0 fp ρi Kf p o) :=
  Zas Zcj (Zuu p o _ (ZvY p o hK h))
def Zl9 (p : PlanV) (o : OpV) : Prop := ((o.okind == 6) = true -> (Zqu p o)) /\ ((o.okind == 6) = false -> (Zma p o))
abbrev ZDp (x0 : OpV) : Env := [(2, some (.ptr ⟨0, 0, 0, 1⟩ 46)), (3, some (.ptr ⟨1, 0, 0, 1⟩ 5)), (12, some (.int .i64 x0.okind)), (13, some (.bool (x0.okind == 6)))]
theorem ZvW (p : PlanV) (o : OpV) (hK : (Yc3 Kf p o)) (h : Zl9 p o) : SemL Try.prog w0 fp ρi 0 34 [Zny, (.seq (.seq Ziw Ziv) (.seq (.seq Ze7 Ze6) ZcK)), (.exit 0)] (ZDp o) (Yc6 p o) (Zdv w0 fp ρi Kf p o) :=
  ZbD (q := (o.okind == 6)) (by kernel_rfl) (fun hq => (Zjj (lpk [] [] (Zau (Zau (Zz7 p o hK (h.1 hq))))))) (fun hq => (Zcd (lpk [2, 3, 12] [0, 1] (Zau (Zau (ZvX p o hK (h.2 hq)))))))
theorem Zut (p : PlanV) (o : OpV) (Z : Env -> Heap -> Prop) (h : Z (ZDp o) (Yc6 p o)) : EvC ZcG Znz (Yc7 o) (Yc6 p o) [2, 3, 12, 13] [0, 1] Z := EvC.of (by kernel_rfl) h
def Zl8 (p : PlanV) (o : OpV) : Prop := Zl9 p o
theorem ZvV (p : PlanV) (o : OpV) (hK : (Yc3 Kf p o)) (h : Zl8 p o) : SemL Try.prog w0 fp ρi 0 34 [Znz, Zny, (.seq (.seq Ziw Ziv) (.seq (.seq Ze7 Ze6) ZcK)), (.exit 0)] (Yc7 o) (Yc6 p o) (Zdv w0 fp ρi Kf p o) :=
  Zas Zcj (Zut p o _ (ZvW p o hK h))
def Zl7 (p : PlanV) (o : OpV) : Prop := Zl8 p o
theorem ZvU (p : PlanV) (o : OpV) (hK : (Yc3 Kf p o)) (h : Zl7 p o) : SemL Try.prog w0 fp ρi 0 34 [ZoF, (.seq (.seq Zg2 .ret) (.exit 0))] (Yc7 o) (Yc6 p o) (ZjC w0 fp ρi Kf p o) :=
  Zdy (Zau (Zau (Zau (ZvV p o hK h))))
def Zl6 (p : PlanV) (o : OpV) : Prop := Zl7 p o
theorem ZvT (p : PlanV) (o : OpV) (hK : (Yc3 Kf p o)) (h : Zl6 p o) : SemL Try.prog w0 fp ρi 0 34 [ZoE, Zg1] (Yc7 o) (Yc6 p o) (ZjD w0 fp ρi Kf p o) :=
  Zdy (Zau (ZvU p o hK h))
def Zl5 (p : PlanV) (o : OpV) : Prop := Zl6 p o
theorem ZvS (p : PlanV) (o : OpV) (hK : (Yc3 Kf p o)) (h : Zl5 p o) : SemL Try.prog w0 fp ρi 0 34 [ZoD, (.seq (.seq Zg0 (.seq Zf7 .ret)) (.exit 0))] (Yc7 o) (Yc6 p o) (Zig w0 fp ρi Kf p o) :=
  Zdy (Zau (ZvT p o hK h))
def Zl4 (p : PlanV) (o : OpV) : Prop := Zl5 p o
theorem ZvR (p : PlanV) (o : OpV) (hK : (Yc3 Kf p o)) (h : Zl4 p o) : SemL Try.prog w0 fp ρi 0 34 [Zej, (.seq Zc6 .ret)] (Yc7 o) (Yc6 p o) (fnK Zcp 0 Kf) :=
  Zdy (Zau (ZvS p o hK h))
theorem Zus (p : PlanV) (o : OpV) (Z : Env -> Heap -> Prop) (h : Z (Yc7 o) (Yc6 p o)) : EvC ZcG ZfG Yc4 (Yc6 p o) [2, 3, 12] [0, 1] Z := EvC.of (by kernel_rfl) h
def Zl3 (p : PlanV) (o : OpV) : Prop := Zl4 p o
theorem ZvQ (p : PlanV) (o : OpV) (hK : (Yc3 Kf p o)) (h : Zl3 p o) : SemL Try.prog w0 fp ρi 0 34 [ZfG, Zej, (.seq Zc6 .ret)] Yc4 (Yc6 p o) (fnK Zcp 0 Kf) :=
  Zas Zcj (Zus p o _ (ZvR p o hK h))
def Zl2 (p : PlanV) (o : OpV) (v5 : Int) : Prop := ((v5 != 0) = true -> (Zqv p o v5)) /\ ((v5 != 0) = false -> (Zl3 p o))
abbrev ZDo (x0 : Int) : Env := [(2, some (.ptr ⟨0, 0, 0, 1⟩ 46)), (3, some (.ptr ⟨1, 0, 0, 1⟩ 5)), (5, some (.int .i64 x0)), (9, some (.bool (x0 != 0)))]
theorem ZvP (p : PlanV) (o : OpV) (hK : (Yc3 Kf p o)) (v5 : Int) (h : Zl2 p o v5) : SemL Try.prog w0 fp ρi 0 34 [Zix, (.seq (.seq ZfG Zej) (.seq Zc6 .ret))] (ZDo v5) (Yc6 p o) (fnK Zcp 0 Kf) :=
  ZbD (q := (v5 != 0)) (by kernel_rfl) (fun hq => (Zau (lpk [5] [] (Zz8 p o hK v5 (h.1 hq))))) (fun hq => (Zcd (lpk [2, 3] [0, 1] (Zau (Zau (ZvQ p o hK (h.2 hq)))))))
abbrev ZDn (x0 : Int) : Env := [(2, some (.ptr ⟨0, 0, 0, 1⟩ 46)), (3, some (.ptr ⟨1, 0, 0, 1⟩ 5)), (5, some (.int .i64 x0))]
theorem Zur (p : PlanV) (o : OpV) (v5 : Int) (Z : Env -> Heap -> Prop) (h : Z (ZDo v5) (Yc6 p o)) : EvC ZcG Ziy (ZDn v5) (Yc6 p o) [2, 3, 5, 9] [0, 1] Z := EvC.of (by kernel_rfl) h
def Zl1 (p : PlanV) (o : OpV) (v5 : Int) : Prop := Zl2 p o v5
theorem ZvO (p : PlanV) (o : OpV) (hK : (Yc3 Kf p o)) (v5 : Int) (h : Zl1 p o v5) : SemL Try.prog w0 fp ρi 0 34 [Ziy, Zix, (.seq (.seq ZfG Zej) (.seq Zc6 .ret))] (ZDn v5) (Yc6 p o) (fnK Zcp 0 Kf) :=
  Zas Zcj (Zur p o v5 _ (ZvP p o hK v5 h))
theorem Zuq (p : PlanV) (o : OpV) (Z : Env -> Heap -> Prop) (h : (True) /\ Z [(2, some (.ptr ⟨0, 0, 0, 1⟩ 46)), (3, some (.ptr ⟨1, 0, 0, 1⟩ 5)), (5, some (.int .i64 (bif PlanV.right p then 0 else 4 : Int)))] (Yc6 p o)) : EvC ZcG Zkg Yc4 (Yc6 p o) [2, 3, 5] [0, 1] Z := EvC.of (by kernel_rfl) h
def Zl0 (p : PlanV) (o : OpV) : Prop := ∀ v5 : Int, v5 = (bif PlanV.right p then 0 else 4 : Int) -> Zl1 p o v5
theorem ZvN (p : PlanV) (o : OpV) (hK : (Yc3 Kf p o)) (h : Zl0 p o) : SemL Try.prog w0 fp ρi 0 34 [Zkg, (.seq Ziy Zix), (.seq (.seq ZfG Zej) (.seq Zc6 .ret))] Yc4 (Yc6 p o) (fnK Zcp 0 Kf) :=
  Zas Zcj (Zuq p o _ ⟨True.intro, (Zau (ZvO p o hK (bif PlanV.right p then 0 else 4 : Int) (h (bif PlanV.right p then 0 else 4 : Int) rfl)))⟩)
abbrev Zw7 (x0 : PlanV) (x1 : OpV) : Env := [(0, some (.agg (PlanV.cs x0))), (1, some (.agg (OpV.cs x1)))]
theorem Zup (p : PlanV) (o : OpV) (Z : Env -> Heap -> Prop) (h : Z Yc4 (Yc6 p o)) : EvC ZcG ZnB (Zw7 p o) Yc2 [2, 3] [0, 1] Z := EvC.of (by kernel_rfl) h
def ZlZ (p : PlanV) (o : OpV) : Prop := Zl0 p o
theorem ZvM (p : PlanV) (o : OpV) (hK : (Yc3 Kf p o)) (h : ZlZ p o) : SemL Try.prog w0 fp ρi 0 34 [ZnB, (.seq (.seq Zkg (.seq Ziy Zix)) (.seq (.seq ZfG Zej) (.seq Zc6 .ret)))] (Zw7 p o) Yc2 (fnK Zcp 0 Kf) :=
  Zas Zcj (Zup p o _ (Zau (Zau (ZvN p o hK h))))
def Zjk (p : PlanV) (o : OpV) : Prop := ZlZ p o
theorem ZtU (p : PlanV) (o : OpV) (hK : (Yc3 Kf p o)) (h : Zjk p o) : SemL Try.prog w0 fp ρi 0 34 [Zr1] (Zw7 p o) Yc2 (fnK Zcp 0 Kf) :=
  (Zau (ZvM p o hK h))
end
theorem ZsR (p : PlanV) (o : OpV) (hpre : (OpV.Wf o)) : Zjk p o := by
  unfold Zjk ZlZ Zl0 Zl1 Zl2 Zl3 Zl4 Zl5 Zl6 Zl7 Zl8 Zl9 Zma Zmb Zmc Zmd Zme Zmf Zqo Zqp Zqq ZiT Zqr Zqs Zob Zqt Zqu Zqv
  obtain ⟨w1, w2, w3, w4, w5⟩ := hpre
  have i1 : I64 1 := by unfold I64; decide
  cases hr : p.right with
  | false =>
    rintro _ rfl
    exact ⟨fun _ => (PlanV.opc4 hr).symm, fun h => by cases h⟩
  | true =>
    rintro _ rfl
    simp only [beq_iff_eq, beq_eq_false_iff_ne, ne_eq]
    refine ⟨fun h => (by cases h), fun _ => ⟨fun h => (PlanV.opc0 hr h).symm, fun h6 => ⟨fun h => ⟨⟨w2, i1⟩, ?_⟩, fun h5 => ?_⟩⟩⟩
    · rintro _ rfl
      exact (PlanV.opcF hr h).symm
    have both : ∀ q : Bool, (q = true -> 1 <= o.okind /\ o.okind <= 4) -> (q = false -> ¬ (1 <= o.okind /\ o.okind <= 6)) -> (q = true -> (I64 o.oat /\ I64 o.on) /\ ∀ v4 : Int, v4 = p.codeOf o.oat o.on -> v4 = p.opCode o) /\ (q = false -> 1 = p.opCode o) := fun q h1 h2 => by
      refine ⟨fun h => ⟨⟨w2, w3⟩, ?_⟩, fun h => (PlanV.opc1 hr (h2 h)).symm⟩
      rintro _ rfl
      exact (PlanV.opcE hr (h1 h).1 (h1 h).2).symm
    refine ⟨fun h => ?_, fun h1 => ⟨fun h => ?_, fun h2 => ⟨fun h => ?_, fun h3 => ?_⟩⟩⟩
    all_goals
      rintro _ rfl
      refine both _ (fun hq => ?_) (fun hq => ?_)
      · have := beq_iff_eq.1 hq; omega
      · have := beq_eq_false_iff_ne.1 hq; omega
theorem Zrf : Sound Try.prog 58 (ZeB Zn1) := by
  refine ZbP Zln ?_
  intro args H K h
  obtain ⟨pre, v, hP, hpre, rfl, hK⟩ := ZbW h
  unfold Zn1 at hP
  split at hP
  · obtain ⟨hb, hP⟩ := ZaT hP
    simp only [Bool.and_eq_true] at hb
    obtain ⟨h0, h1⟩ := hb
    obtain rfl := Nat.eq_of_beq_eq_true h0
    obtain rfl := Nat.eq_of_beq_eq_true h1
    cases hP
    exact ⟨rfl, fun w0 fp ρi => ZtU (PlanV.mk _ _ _ _ _ _ _ _ _ _ _ _ _ _ _ _) (OpV.mk _ _ _ _ _) hK (ZsR (PlanV.mk _ _ _ _ _ _ _ _ _ _ _ _ _ _ _ _) (OpV.mk _ _ _ _ _) hpre)⟩
  · cases hP
section
variable {w0 : World} {fp : Nat -> Nat -> Prop} {ρi : Rho} {Kf : SVal -> Heap -> Prop}
end
def Zsq : Zfm := fun args => match args with
  | [.agg [.one (.int .i64 p_0), .one (.int .i64 p_1), .one (.int .i64 p_2), .one (.int .i64 p_3), .one (.int .i64 p_4), .one (.int .i64 p_5), .one (.int .u64 p_6), .one (.int .i64 p_7), .one (.int .i64 p_8), .one (.int .i64 p_9), .one (.int .i64 p_10), .one (.int .i64 p_11), .one (.int .i64 p_12), .one (.int .i64 p_13), .ints .u8 p_14_n p_14, .ints .u8 p_15_n p_15], .agg [.one (.int .i64 o_0), .one (.int .i64 o_1), .one (.int .i64 o_2), .one (.int .u64 o_3), .one (.int .u64 o_4)]] => bif Nat.beq p_14_n 16 && Nat.beq p_15_n 16 then some ((OpV.Wf (OpV.mk o_0 o_1 o_2 o_3 o_4)), .tuple [.int .i64 (PlanV.opLine (PlanV.mk p_0 p_1 p_2 p_3 p_4 p_5 p_6 p_7 p_8 p_9 p_10 p_11 p_12 p_13 p_14 p_15) (OpV.mk o_0 o_1 o_2 o_3 o_4)), .bool (PlanV.opB (PlanV.mk p_0 p_1 p_2 p_3 p_4 p_5 p_6 p_7 p_8 p_9 p_10 p_11 p_12 p_13 p_14 p_15) (OpV.mk o_0 o_1 o_2 o_3 o_4))]) else none
  | _ => none
def Zwy : PCon := ⟨59, Zsq⟩
def Zhj (p : PlanV) (o : OpV) (Kf : SVal -> Heap -> Prop) : Prop := Kf (.tuple [.int .i64 (PlanV.opLine p o), .bool (PlanV.opB p o)]) ⟨0, []⟩
def Znx : ACode := .reg (.op (some 2) (.box (.tm 0)) (.op (some 3) (.box (.tm 1)) (.op (some 4) (.mov (.cn (.int .i64 0))) (.op (some 5) (.mov (.cn (.bool false))) .nil))))
def Zka : ACode := .reg (.op (some 6) (.loadA 46 (.tm 2)) (.op (some 7) (.loadA 5 (.tm 3)) (.op (some 8) (.call 58 [(.tm 6), (.tm 7)]) (.op (some 9) (.bin .neq (.tm 8) (.cn (.int .i64 0))) (.op (some 10) (.mov (.tm 9)) (.grpJ 10 false (.op (some 11) (.fieldAddr (.tm 3) 0 1) (.op (some 12) (.load1 (.tm 11)) (.op (some 13) (.bin .eql (.tm 12) (.cn (.int .i64 6))) .nil))) 14 (.tm 13) (.cn (.bool true)) .nil))))))
def Znw : ACode := .reg (.op (some 4) (.mov (.cn (.int .i64 0))) (.op (some 5) (.mov (.cn (.bool false))) .nil))
def Zj9 : ACode := .cond (.tm 14) (.seq Znw .ret) .skip
def Zgq : ACode := .reg (.op (some 15) (.fieldAddr (.tm 3) 1 1) (.op (some 16) (.load1 (.tm 15)) (.op (some 17) (.bin .quo (.tm 16) (.cn (.int .i64 32))) (.op (some 4) (.mov (.tm 17)) (.op (some 5) (.mov (.cn (.bool true))) .nil)))))
def ZtG : ACode := (.seq Znx (.seq (.seq Zka Zj9) (.seq Zgq .ret)))
def ZfM : Res := .many [.tm 4, .tm 5]
theorem ZnT : ZbJ Try.prog 59 2 18 ZtG ZfM = true := by kernel_rfl
def ZlB : Za7 := Zfk [Zoo] []
theorem ZjG : Zbb Try.prog ZlB := Zch ⟨Zrf, trivial⟩ trivial
section
variable {w0 : World} {fp : Nat -> Nat -> Prop} {ρi : Rho} {Kf : SVal -> Heap -> Prop}
abbrev ZDm : Env := [(4, some (.int .i64 0)), (5, some (.bool false))]
theorem Zx8 (p : PlanV) (o : OpV) (Z : Env -> Heap -> Prop) (h : Z ZDm Yc1) : EvC ZlB Znw [] Yc1 [4, 5] [] Z := EvC.of (by kernel_rfl) h
theorem Zu9 (p : PlanV) (o : OpV) : RetC ZfM ZDm Yc1 (.tuple [.int .i64 0, .bool false]) := RetC.of (fun Z => by kernel_rfl)
def Zqn (p : PlanV) (o : OpV) : Prop := (0 = (PlanV.opLine p o)) /\ (false = (PlanV.opB p o))
theorem Zz0 (p : PlanV) (o : OpV) (hK : Zhj p o Kf) (h : Zqn p o) : SemL Try.prog w0 fp ρi 0 18 [Znw, .ret, (.seq Zgq .ret)] [] Yc1 (fnK ZfM 0 Kf) :=
  Zas ZjG (Zx8 p o _ (Zbz (R := ZfM) (m := 0) (Kf := Kf) (fun _ _ h => h) (Zu9 p o) (Zbd rfl (by kernel_rfl) (cg2 (fun (z1 : Int) (z2 : Bool) => (.tuple [.int .i64 z1, .bool z2] : SVal)) h.1 h.2) hK)))
abbrev ZDl (x0 : OpV) : Env := [(4, some (.int .i64 (IntKind.i64.wrap (Int.tdiv x0.oat 32)))), (5, some (.bool true))]
abbrev ZBp (x0 : OpV) : Heap := ⟨2, [(1, some ⟨true, (OpV.cs x0), 0⟩)]⟩
theorem Zx7 (p : PlanV) (o : OpV) (Z : Env -> Heap -> Prop) (h : (((32 : Int) ≠ 0)) /\ Z (ZDl o) Yc1) : EvC ZlB Zgq [(3, some (.ptr ⟨1, 0, 0, 1⟩ 5))] (ZBp o) [4, 5] [] Z := EvC.of (by kernel_rfl) h
theorem Zu8 (p : PlanV) (o : OpV) : RetC ZfM (ZDl o) Yc1 (.tuple [.int .i64 (IntKind.i64.wrap (Int.tdiv o.oat 32)), .bool true]) := RetC.of (fun Z => by kernel_rfl)
def Zqm (p : PlanV) (o : OpV) : Prop := ((IntKind.i64.wrap (Int.tdiv o.oat 32)) = (PlanV.opLine p o)) /\ (true = (PlanV.opB p o))
theorem ZzZ (p : PlanV) (o : OpV) (hK : Zhj p o Kf) (h : Zqm p o) : SemL Try.prog w0 fp ρi 0 18 [Zgq, .ret] [(3, some (.ptr ⟨1, 0, 0, 1⟩ 5))] (ZBp o) (fnK ZfM 0 Kf) :=
  Zas ZjG (Zx7 p o _ ⟨(by decide), (Zbz (R := ZfM) (m := 0) (Kf := Kf) (fun _ _ h => h) (Zu8 p o) (Zbd rfl (by kernel_rfl) (cg2 (fun (z1 : Int) (z2 : Bool) => (.tuple [.int .i64 z1, .bool z2] : SVal)) h.1 h.2) hK))⟩)
def Zql (p : PlanV) (o : OpV) : Prop := ((((PlanV.opCode p o) != 0) || (o.okind == 6)) = true -> (Zqn p o)) /\ ((((PlanV.opCode p o) != 0) || (o.okind == 6)) = false -> (Zqm p o))
theorem ZzY (p : PlanV) (o : OpV) (hK : Zhj p o Kf) (h : Zql p o) : SemL Try.prog w0 fp ρi 0 18 [Zj9, (.seq Zgq .ret)] [(3, some (.ptr ⟨1, 0, 0, 1⟩ 5)), (14, some (.bool (((PlanV.opCode p o) != 0) || (o.okind == 6))))] (ZBp o) (fnK ZfM 0 Kf) :=
  ZbD (q := (((PlanV.opCode p o) != 0) || (o.okind == 6))) (by kernel_rfl) (fun hq => (Zau (lpk [] [] (Zz0 p o hK (h.1 hq))))) (fun hq => (Zcd (lpk [3] [1] (Zau (ZzZ p o hK (h.2 hq))))))
theorem Zx6 (p : PlanV) (o : OpV) (Z : Env -> Heap -> Prop) (h : ((OpV.Wf o)) /\ ∃ qq : Bool, (((PlanV.opCode p o) != 0) = false -> (ZaN (Yc6 p o) (Yc6 p o) [(0, some ⟨true, (PlanV.cs p), 0⟩), (1, some ⟨true, (OpV.cs o), 0⟩)]) /\ (o.okind == 6) = qq) /\ (((PlanV.opCode p o) != 0) = true -> true = qq) /\ Z [(3, some (.ptr ⟨1, 0, 0, 1⟩ 5)), (14, some (.bool qq))] (ZBp o)) : EvC ZlB Zka Yc4 (Yc6 p o) [3, 14] [1] Z := EvC.of (by kernel_rfl) h
def Zqk (p : PlanV) (o : OpV) : Prop := ((OpV.Wf o)) /\ (Zql p o)
theorem ZzX (p : PlanV) (o : OpV) (hK : Zhj p o Kf) (h : Zqk p o) : SemL Try.prog w0 fp ρi 0 18 [Zka, Zj9, (.seq Zgq .ret)] Yc4 (Yc6 p o) (fnK ZfM 0 Kf) :=
  Zas ZjG (Zx6 p o _ ⟨h.1, ⟨(((PlanV.opCode p o) != 0) || (o.okind == 6)), fun hc_qq => ⟨(Za3 _), (qo1 hc_qq)⟩, fun hc_qq => qo2 hc_qq, (ZzY p o hK h.2)⟩⟩)
theorem Zx5 (p : PlanV) (o : OpV) (Z : Env -> Heap -> Prop) (h : Z Yc4 (Yc6 p o)) : EvC ZlB Znx (Zw7 p o) Yc2 [2, 3] [0, 1] Z := EvC.of (by kernel_rfl) h
def Zqj (p : PlanV) (o : OpV) : Prop := Zqk p o
theorem ZzW (p : PlanV) (o : OpV) (hK : Zhj p o Kf) (h : Zqj p o) : SemL Try.prog w0 fp ρi 0 18 [Znx, (.seq (.seq Zka Zj9) (.seq Zgq .ret))] (Zw7 p o) Yc2 (fnK ZfM 0 Kf) :=
  Zas ZjG (Zx5 p o _ (Zau (Zau (ZzX p o hK h))))
def ZmL (p : PlanV) (o : OpV) : Prop := Zqj p o
theorem Zxa (p : PlanV) (o : OpV) (hK : Zhj p o Kf) (h : ZmL p o) : SemL Try.prog w0 fp ρi 0 18 [ZtG] (Zw7 p o) Yc2 (fnK ZfM 0 Kf) :=
  (Zau (ZzW p o hK h))
end
theorem ZwC (p : PlanV) (o : OpV) (hpre : (OpV.Wf o)) : ZmL p o := by
  unfold ZmL Zqj Zqk Zql Zqm Zqn
  refine ⟨hpre, ?_⟩
  have hc : (p.opCode o != 0 || o.okind == 6) = !(p.opB o) := by
    unfold PlanV.opB
    rw [show (p.opCode o != 0) = !(p.opCode o == 0) from rfl, Bool.not_and, Bool.not_not]
  rw [hc]
  refine ⟨fun h => ?_, fun h => ?_⟩
  · have h := ZgK h
    unfold PlanV.opLine
    rw [h]; exact ⟨rfl, rfl⟩
  · have h := Zgm h
    have hb := h
    unfold PlanV.opB at hb
    simp only [Bool.and_eq_true, beq_iff_eq, Bool.not_eq_true', beq_eq_false_iff_ne] at hb
    have hat := PlanV.opB_at hb.1 hb.2
    have ht : p.tags = p.all * 32 := rfl
    have ha := _root_.Go.Sx.PlanV.all_le p
    unfold PlanV.opLine
    rw [h, if_pos rfl, Int.tdiv_eq_ediv_of_nonneg hat.1, ZlC]
    exact ⟨by omega, rfl⟩
theorem Zxg : Sound Try.prog 59 (ZeB Zsq) := by
  refine ZbP ZnT ?_
  intro args H K h
  obtain ⟨pre, v, hP, hpre, rfl, hK⟩ := ZbW h
  unfold Zsq at hP
  split at hP
  · obtain ⟨hb, hP⟩ := ZaT hP
    simp only [Bool.and_eq_true] at hb
    obtain ⟨h0, h1⟩ := hb
    obtain rfl := Nat.eq_of_beq_eq_true h0
    obtain rfl := Nat.eq_of_beq_eq_true h1
    cases hP
    exact ⟨rfl, fun w0 fp ρi => Zxa (PlanV.mk _ _ _ _ _ _ _ _ _ _ _ _ _ _ _ _) (OpV.mk _ _ _ _ _) hK (ZwC (PlanV.mk _ _ _ _ _ _ _ _ _ _ _ _ _ _ _ _) (OpV.mk _ _ _ _ _) hpre)⟩
  · cases hP
end Go.Proofs.Ytinjdimejijabaa
