/- Part of the proof: SxWordK2. -/
import Derived.Test.YtinjdimejijabaaSxRegN2
import Derived.Test.YtinjdimejijabaaSxWordK
import Derived.KernelRfl
set_option linter.unusedVariables false
set_option linter.unusedSimpArgs false
set_option maxRecDepth 20000
namespace Go.Proofs.Ytinjdimejijabaa
open Go.Sx
def Zsq : Zez := fun args => match args with
  | [.agg [.one (.int .i64 p_0), .one (.int .i64 p_1), .one (.int .i64 p_2), .one (.int .i64 p_3), .one (.int .i64 p_4), .one (.int .i64 p_5), .one (.int .u64 p_6), .one (.int .i64 p_7), .one (.int .i64 p_8), .one (.int .i64 p_9), .one (.int .i64 p_10), .one (.int .i64 p_11), .one (.int .i64 p_12), .one (.int .i64 p_13), .ints .u8 p_14_n p_14, .ints .u8 p_15_n p_15], .agg [.one (.int .i64 o_0), .one (.int .i64 o_1), .one (.int .i64 o_2), .one (.int .u64 o_3), .one (.int .u64 o_4)]] => bif Nat.beq p_14_n 16 && Nat.beq p_15_n 16 then some ((OpV.Wf (OpV.mk o_0 o_1 o_2 o_3 o_4)), .int .i64 (PlanV.opCode (PlanV.mk p_0 p_1 p_2 p_3 p_4 p_5 p_6 p_7 p_8 p_9 p_10 p_11 p_12 p_13 p_14 p_15) (OpV.mk o_0 o_1 o_2 o_3 o_4))) else none
  | _ => none
def ZsT : PCon := ⟨58, Zsq⟩
def ZrK : ACode := .reg (.op (some 2) (.box (.tm 0)) (.op (some 3) (.box (.tm 1)) (.op (some 4) (.mov (.cn (.int .i64 0))) .nil)))
def Znc : ACode := .reg (.op (some 6) (.loadA 46 (.tm 2)) (.op (some 7) (.call 56 [(.tm 6)]) (.op (some 5) (.mov (.tm 7)) .nil)))
def Zkm : ACode := .reg (.op (some 8) (.mov (.tm 5)) (.op (some 9) (.bin .neq (.tm 8) (.cn (.int .i64 0))) .nil))
def ZrJ : ACode := .reg (.op (some 10) (.mov (.tm 5)) (.op (some 4) (.mov (.tm 10)) .nil))
def Zkl : ACode := .cond (.tm 9) (.seq ZrJ .ret) .skip
def ZgH : ACode := .reg (.op (some 11) (.fieldAddr (.tm 3) 0 1) (.op (some 12) (.load1 (.tm 11)) .nil))
def ZrI : ACode := .reg (.op (some 14) (.bin .eql (.tm 12) (.cn (.int .i64 6))) (.op (some 13) (.mov (.tm 14)) .nil))
def ZrH : ACode := .cond (.tm 13) (.exit 1) .skip
def Zkk : ACode := .reg (.op (some 16) (.bin .eql (.tm 12) (.cn (.int .i64 5))) (.op (some 15) (.mov (.tm 16)) .nil))
def Zkj : ACode := .cond (.tm 15) (.exit 2) .skip
def Zf5 : ACode := .reg (.op (some 18) (.bin .eql (.tm 12) (.cn (.int .i64 1))) (.op (some 17) (.mov (.tm 18)) .nil))
def Znb : ACode := .reg (.op (some 19) (.bin .eql (.tm 12) (.cn (.int .i64 2))) (.op (some 17) (.mov (.tm 19)) .nil))
def Zna : ACode := .reg (.op (some 20) (.bin .eql (.tm 12) (.cn (.int .i64 3))) (.op (some 17) (.mov (.tm 20)) .nil))
def Zm9 : ACode := .reg (.op (some 21) (.bin .eql (.tm 12) (.cn (.int .i64 4))) (.op (some 17) (.mov (.tm 21)) .nil))
def Zm8 : ACode := .cond (.tm 17) .skip Zm9
def Zm7 : ACode := .cond (.tm 17) .skip (.seq Zna Zm8)
def Zf4 : ACode := .cond (.tm 17) .skip (.seq Znb Zm7)
def Zdg : ACode := .cond (.tm 17) (.exit 3) .skip
def Ztr : ACode := .block 1 (.seq (.seq (.seq ZrI ZrH) (.seq (.seq Zkk Zkj) (.seq (.seq Zf5 Zf4) Zdg))) (.exit 0))
def Zih : ACode := .reg (.op (some 4) (.mov (.cn (.int .i64 0))) .nil)
def Ztq : ACode := .block 2 (.seq Ztr (.seq (.seq Zih .ret) (.exit 0)))
def Zig : ACode := .reg (.op (some 22) (.fieldAddr (.tm 3) 2 1) (.op none (.store1 (.tm 22) (.cn (.int .i64 1))) .nil))
def Ztp : ACode := .block 3 (.seq Ztq Zig)
def Zif : ACode := .reg (.op (some 24) (.loadA 46 (.tm 2)) (.op (some 25) (.fieldAddr (.tm 3) 1 1) (.op (some 26) (.load1 (.tm 25)) (.op (some 27) (.fieldAddr (.tm 3) 2 1) (.op (some 28) (.load1 (.tm 27)) (.op (some 29) (.call 73 [(.tm 24), (.tm 26), (.tm 28)]) (.op (some 23) (.mov (.tm 29)) (.op (some 30) (.extract (.tm 23) 0) (.op (some 31) (.extract (.tm 23) 1) (.op (some 32) (.extract (.tm 23) 2) (.op (some 4) (.mov (.tm 32)) .nil)))))))))))
def Zhb : ACode := .reg (.op (some 33) (.mov (.tm 4)) (.op (some 4) (.mov (.tm 33)) .nil))
def Ze7 : ACode := .block 0 (.seq Ztp (.seq (.seq Zif (.seq Zhb .ret)) (.exit 0)))
def ZdL : ACode := .reg (.op (some 4) (.mov (.cn (.int .i64 1))) .nil)
def Zyz : ACode := (.seq ZrK (.seq (.seq Znc (.seq Zkm Zkl)) (.seq (.seq ZgH Ze7) (.seq ZdL .ret))))
def ZcM : Res := .one (.tm 4)
theorem ZoD : ZbD Try.prog 58 2 34 Zyz ZcM = true := by kernel_rfl
def Zc9 : Za8 := ZdW [Zmc, ZxE] []
theorem ZcG : Za9 Try.prog Zc9 := ZbI ⟨ZqJ, Zzr, trivial⟩ trivial
section
variable {w0 : World} {fp : Nat -> Nat -> Prop} {ρi : Rho} {Kf : SVal -> Heap -> Prop}
abbrev Yd0 (x0 : Int) : Env := [(4, some (.int .i64 x0))]
abbrev Yd1 : Heap := ⟨2, []⟩
theorem ZIp (p : PlanV) (o : OpV) (v5 : Int) (Z : Env -> Heap -> Prop) (h : Z (Yd0 v5) Yd1) : EvC Zc9 ZrJ [(5, some (.int .i64 v5))] Yd1 [4] [] Z := EvC.of (by kernel_rfl) h
theorem ZDT (p : PlanV) (o : OpV) (v5 : Int) : RetC ZcM (Yd0 v5) Yd1 (.int .i64 v5) := RetC.of (fun Z => by kernel_rfl)
def Zwe (p : PlanV) (o : OpV) (v5 : Int) : Prop := v5 = (PlanV.opCode p o)
abbrev Yd2 : Heap := ⟨0, []⟩
abbrev Yd3 (x0 : SVal -> Heap -> Prop) (x1 : PlanV) (x2 : OpV) : Prop := x0 (.int .i64 (PlanV.opCode x1 x2)) ⟨0, []⟩
theorem ZLo (p : PlanV) (o : OpV) (hK : (Yd3 Kf p o)) (v5 : Int) (h : Zwe p o v5) : SemL Try.prog w0 fp ρi 0 34 [ZrJ, .ret, (.seq (.seq ZgH Ze7) (.seq ZdL .ret))] [(5, some (.int .i64 v5))] Yd1 (fnK ZcM 0 Kf) :=
  Zae ZcG (ZIp p o v5 _ (Zba (R := ZcM) (m := 0) (Kf := Kf) (fun _ _ h => h) (ZDT p o v5) (Za3 rfl (by kernel_rfl) (cg1 (fun (z1 : Int) => (.int .i64 z1 : SVal)) h) hK)))
def Zj1 (w0 : World) (fp : Nat -> Nat -> Prop) (ρi : Rho) (Kf : SVal -> Heap -> Prop) (p : PlanV) (o : OpV) : Zek := ZcF 0 (fun e H => SemL Try.prog w0 fp ρi 0 34 [(.seq ZdL .ret)] e H (fnK ZcM 0 Kf)) (fnK ZcM 0 Kf)
def Zmj (w0 : World) (fp : Nat -> Nat -> Prop) (ρi : Rho) (Kf : SVal -> Heap -> Prop) (p : PlanV) (o : OpV) : Zek := ZcF 3 (fun e H => SemL Try.prog w0 fp ρi 0 34 [(.seq (.seq Zif (.seq Zhb .ret)) (.exit 0))] e H (Zj1 w0 fp ρi Kf p o)) (Zj1 w0 fp ρi Kf p o)
def Zmi (w0 : World) (fp : Nat -> Nat -> Prop) (ρi : Rho) (Kf : SVal -> Heap -> Prop) (p : PlanV) (o : OpV) : Zek := ZcF 2 (fun e H => SemL Try.prog w0 fp ρi 0 34 [Zig] e H (Zmj w0 fp ρi Kf p o)) (Zmj w0 fp ρi Kf p o)
abbrev Yd4 : Env := [(4, some (.int .i64 0))]
theorem ZIo (p : PlanV) (o : OpV) (Z : Env -> Heap -> Prop) (h : Z Yd4 Yd1) : EvC Zc9 Zih [] Yd1 [4] [] Z := EvC.of (by kernel_rfl) h
theorem ZDS (p : PlanV) (o : OpV) : RetC ZcM Yd4 Yd1 (.int .i64 0) := RetC.of (fun Z => by kernel_rfl)
def Zwd (p : PlanV) (o : OpV) : Prop := 0 = (PlanV.opCode p o)
theorem ZLn (p : PlanV) (o : OpV) (hK : (Yd3 Kf p o)) (h : Zwd p o) : SemL Try.prog w0 fp ρi 0 34 [Zih, .ret, (.exit 0)] [] Yd1 (Zmi w0 fp ρi Kf p o) :=
  Zae ZcG (ZIo p o _ (Zba (R := ZcM) (m := 0) (Kf := Kf) (fun _ _ h => h) (ZDS p o) (Za3 rfl (by kernel_rfl) (cg1 (fun (z1 : Int) => (.int .i64 z1 : SVal)) h) hK)))
theorem ZIn (p : PlanV) (o : OpV) (v4 : Int) (Z : Env -> Heap -> Prop) (h : Z (Yd0 v4) Yd1) : EvC Zc9 Zhb (Yd0 v4) Yd1 [4] [] Z := EvC.of (by kernel_rfl) h
theorem ZDR (p : PlanV) (o : OpV) (v4 : Int) : RetC ZcM (Yd0 v4) Yd1 (.int .i64 v4) := RetC.of (fun Z => by kernel_rfl)
def Zwc (p : PlanV) (o : OpV) (v4 : Int) : Prop := v4 = (PlanV.opCode p o)
theorem ZLm (p : PlanV) (o : OpV) (hK : (Yd3 Kf p o)) (v4 : Int) (h : Zwc p o v4) : SemL Try.prog w0 fp ρi 0 34 [Zhb, .ret, (.exit 0)] (Yd0 v4) Yd1 (Zj1 w0 fp ρi Kf p o) :=
  Zae ZcG (ZIn p o v4 _ (Zba (R := ZcM) (m := 0) (Kf := Kf) (fun _ _ h => h) (ZDR p o v4) (Za3 rfl (by kernel_rfl) (cg1 (fun (z1 : Int) => (.int .i64 z1 : SVal)) h) hK)))
abbrev Yd5 : Env := [(2, some (.ptr ⟨0, 0, 0, 1⟩ 46)), (3, some (.ptr ⟨1, 0, 0, 1⟩ 5))]
abbrev Yd6 (x0 : PlanV) (x1 : OpV) (x2 : Int) : Heap := ⟨2, [(0, some ⟨true, (PlanV.cs x0), 0⟩), (1, some ⟨true, [.one (.int .i64 x1.okind), .one (.int .i64 x1.oat), .one (.int .i64 x2), .one (.int .u64 x1.oval), .one (.int .u64 x1.owant)], 0⟩)]⟩
theorem ZIm (p : PlanV) (o : OpV) (h1_2 : Int) (Z : Env -> Heap -> Prop) (h : ((I64 o.oat /\ I64 h1_2)) /\ Z [(4, some (.int .i64 (PlanV.codeOf p o.oat h1_2)))] Yd1) : EvC Zc9 Zif Yd5 (Yd6 p o h1_2) [4] [] Z := EvC.of (by kernel_rfl) h
def ZsF (p : PlanV) (o : OpV) (h1_2 : Int) : Prop := ((I64 o.oat /\ I64 h1_2)) /\ (∀ v4 : Int, v4 = (PlanV.codeOf p o.oat h1_2) -> Zwc p o v4)
theorem ZBg (p : PlanV) (o : OpV) (hK : (Yd3 Kf p o)) (h1_2 : Int) (h : ZsF p o h1_2) : SemL Try.prog w0 fp ρi 0 34 [Zif, (.seq Zhb .ret), (.exit 0)] Yd5 (Yd6 p o h1_2) (Zj1 w0 fp ρi Kf p o) :=
  Zae ZcG (ZIm p o h1_2 _ ⟨h.1, (Zag (ZLm p o hK (PlanV.codeOf p o.oat h1_2) (h.2 (PlanV.codeOf p o.oat h1_2) rfl)))⟩)
abbrev Yd7 (x0 : PlanV) (x1 : OpV) : Heap := ⟨2, [(0, some ⟨true, (PlanV.cs x0), 0⟩), (1, some ⟨true, (OpV.cs x1), 0⟩)]⟩
theorem ZIl (p : PlanV) (o : OpV) (Z : Env -> Heap -> Prop) (h : Z Yd5 ⟨2, [(0, some ⟨true, (PlanV.cs p), 0⟩), (1, some ⟨true, [.one (.int .i64 o.okind), .one (.int .i64 o.oat), .one (.int .i64 1), .one (.int .u64 o.oval), .one (.int .u64 o.owant)], 0⟩)]⟩) : EvC Zc9 Zig Yd5 (Yd7 p o) [2, 3] [0, 1] Z := EvC.of (by kernel_rfl) h
def Zwb (p : PlanV) (o : OpV) : Prop := ZsF p o 1
theorem ZLl (p : PlanV) (o : OpV) (hK : (Yd3 Kf p o)) (h : Zwb p o) : SemL Try.prog w0 fp ρi 0 34 [Zig] Yd5 (Yd7 p o) (Zmj w0 fp ρi Kf p o) :=
  Zae ZcG (ZIl p o _ (Zej (Zag (Zag (ZBg p o hK 1 h)))))
abbrev Yd8 : Env := [(4, some (.int .i64 1))]
theorem ZIk (p : PlanV) (o : OpV) (Z : Env -> Heap -> Prop) (h : Z Yd8 Yd1) : EvC Zc9 ZdL [] Yd1 [4] [] Z := EvC.of (by kernel_rfl) h
theorem ZDQ (p : PlanV) (o : OpV) : RetC ZcM Yd8 Yd1 (.int .i64 1) := RetC.of (fun Z => by kernel_rfl)
def Zwa (p : PlanV) (o : OpV) : Prop := 1 = (PlanV.opCode p o)
theorem ZLk (p : PlanV) (o : OpV) (hK : (Yd3 Kf p o)) (h : Zwa p o) : SemL Try.prog w0 fp ρi 0 34 [ZdL, .ret] [] Yd1 (fnK ZcM 0 Kf) :=
  Zae ZcG (ZIk p o _ (Zba (R := ZcM) (m := 0) (Kf := Kf) (fun _ _ h => h) (ZDQ p o) (Za3 rfl (by kernel_rfl) (cg1 (fun (z1 : Int) => (.int .i64 z1 : SVal)) h) hK)))
def Zep (w0 : World) (fp : Nat -> Nat -> Prop) (ρi : Rho) (Kf : SVal -> Heap -> Prop) (p : PlanV) (o : OpV) : Zek := ZcF 1 (fun e H => SemL Try.prog w0 fp ρi 0 34 [(.seq (.seq Zih .ret) (.exit 0))] e H (Zmi w0 fp ρi Kf p o)) (Zmi w0 fp ρi Kf p o)
def Zk1 (p : PlanV) (o : OpV) (v17 : Bool) : Prop := (v17 = true -> (ZsF p o o.on)) /\ (v17 = false -> (Zwa p o))
theorem ZsP (p : PlanV) (o : OpV) (hK : (Yd3 Kf p o)) (v17 : Bool) (h : Zk1 p o v17) : SemL Try.prog w0 fp ρi 0 34 [Zdg, (.exit 0)] [(2, some (.ptr ⟨0, 0, 0, 1⟩ 46)), (3, some (.ptr ⟨1, 0, 0, 1⟩ 5)), (17, some (.bool v17))] (Yd7 p o) (Zep w0 fp ρi Kf p o) :=
  Zbf (q := v17) (by kernel_rfl) (fun hq => (ZfI (lpk [2, 3] [0, 1] (Zag (Zag (ZBg p o hK o.on (h.1 hq))))))) (fun hq => (Zbu (lpk [] [] (ZfI (Zag (ZLk p o hK (h.2 hq)))))))
abbrev Yd9 (x0 : OpV) : Env := [(2, some (.ptr ⟨0, 0, 0, 1⟩ 46)), (3, some (.ptr ⟨1, 0, 0, 1⟩ 5)), (12, some (.int .i64 x0.okind))]
theorem ZIj (p : PlanV) (o : OpV) (Z : Env -> Heap -> Prop) (h : Z [(2, some (.ptr ⟨0, 0, 0, 1⟩ 46)), (3, some (.ptr ⟨1, 0, 0, 1⟩ 5)), (17, some (.bool (o.okind == 4)))] (Yd7 p o)) : EvC Zc9 Zm9 (Yd9 o) (Yd7 p o) [2, 3, 17] [0, 1] Z := EvC.of (by kernel_rfl) h
def Zv9 (p : PlanV) (o : OpV) : Prop := ∀ v17 : Bool, v17 = (o.okind == 4) -> Zk1 p o v17
theorem ZLj (p : PlanV) (o : OpV) (hK : (Yd3 Kf p o)) (h : Zv9 p o) : SemL Try.prog w0 fp ρi 0 34 [Zm9, Zdg, (.exit 0)] (Yd9 o) (Yd7 p o) (Zep w0 fp ρi Kf p o) :=
  Zae ZcG (ZIj p o _ (ZsP p o hK (o.okind == 4) (h (o.okind == 4) rfl)))
def Zv8 (p : PlanV) (o : OpV) : Prop := ((o.okind == 3) = true -> (∀ v17 : Bool, v17 = (o.okind == 3) -> Zk1 p o v17)) /\ ((o.okind == 3) = false -> (Zv9 p o))
abbrev ZP3 (x0 : OpV) : Env := [(2, some (.ptr ⟨0, 0, 0, 1⟩ 46)), (3, some (.ptr ⟨1, 0, 0, 1⟩ 5)), (12, some (.int .i64 x0.okind)), (17, some (.bool (x0.okind == 3)))]
theorem ZLi (p : PlanV) (o : OpV) (hK : (Yd3 Kf p o)) (h : Zv8 p o) : SemL Try.prog w0 fp ρi 0 34 [Zm8, Zdg, (.exit 0)] (ZP3 o) (Yd7 p o) (Zep w0 fp ρi Kf p o) :=
  Zbf (q := (o.okind == 3)) (by kernel_rfl) (fun hq => (Zbu (lpk [2, 3, 17] [0, 1] (ZsP p o hK (o.okind == 3) ((h.1 hq) (o.okind == 3) rfl))))) (fun hq => (lpk [2, 3, 12] [0, 1] (ZLj p o hK (h.2 hq))))
theorem ZIi (p : PlanV) (o : OpV) (Z : Env -> Heap -> Prop) (h : Z (ZP3 o) (Yd7 p o)) : EvC Zc9 Zna (Yd9 o) (Yd7 p o) [2, 3, 12, 17] [0, 1] Z := EvC.of (by kernel_rfl) h
def Zv7 (p : PlanV) (o : OpV) : Prop := Zv8 p o
theorem ZLh (p : PlanV) (o : OpV) (hK : (Yd3 Kf p o)) (h : Zv7 p o) : SemL Try.prog w0 fp ρi 0 34 [Zna, Zm8, Zdg, (.exit 0)] (Yd9 o) (Yd7 p o) (Zep w0 fp ρi Kf p o) :=
  Zae ZcG (ZIi p o _ (ZLi p o hK h))
def ZpX (p : PlanV) (o : OpV) : Prop := ((o.okind == 2) = true -> (∀ v17 : Bool, v17 = (o.okind == 2) -> Zk1 p o v17)) /\ ((o.okind == 2) = false -> (Zv7 p o))
abbrev ZP2 (x0 : OpV) : Env := [(2, some (.ptr ⟨0, 0, 0, 1⟩ 46)), (3, some (.ptr ⟨1, 0, 0, 1⟩ 5)), (12, some (.int .i64 x0.okind)), (17, some (.bool (x0.okind == 2)))]
theorem ZFc (p : PlanV) (o : OpV) (hK : (Yd3 Kf p o)) (h : ZpX p o) : SemL Try.prog w0 fp ρi 0 34 [Zm7, Zdg, (.exit 0)] (ZP2 o) (Yd7 p o) (Zep w0 fp ρi Kf p o) :=
  Zbf (q := (o.okind == 2)) (by kernel_rfl) (fun hq => (Zbu (lpk [2, 3, 17] [0, 1] (ZsP p o hK (o.okind == 2) ((h.1 hq) (o.okind == 2) rfl))))) (fun hq => (Zag (lpk [2, 3, 12] [0, 1] (ZLh p o hK (h.2 hq)))))
theorem ZCQ (p : PlanV) (o : OpV) (Z : Env -> Heap -> Prop) (h : Z (ZP2 o) (Yd7 p o)) : EvC Zc9 Znb (Yd9 o) (Yd7 p o) [2, 3, 12, 17] [0, 1] Z := EvC.of (by kernel_rfl) h
def ZpW (p : PlanV) (o : OpV) : Prop := ZpX p o
theorem ZFb (p : PlanV) (o : OpV) (hK : (Yd3 Kf p o)) (h : ZpW p o) : SemL Try.prog w0 fp ρi 0 34 [Znb, Zm7, Zdg, (.exit 0)] (Yd9 o) (Yd7 p o) (Zep w0 fp ρi Kf p o) :=
  Zae ZcG (ZCQ p o _ (ZFc p o hK h))
def ZpV (p : PlanV) (o : OpV) : Prop := ((o.okind == 1) = true -> (∀ v17 : Bool, v17 = (o.okind == 1) -> Zk1 p o v17)) /\ ((o.okind == 1) = false -> (ZpW p o))
abbrev ZP1 (x0 : OpV) : Env := [(2, some (.ptr ⟨0, 0, 0, 1⟩ 46)), (3, some (.ptr ⟨1, 0, 0, 1⟩ 5)), (12, some (.int .i64 x0.okind)), (17, some (.bool (x0.okind == 1)))]
theorem ZFa (p : PlanV) (o : OpV) (hK : (Yd3 Kf p o)) (h : ZpV p o) : SemL Try.prog w0 fp ρi 0 34 [Zf4, Zdg, (.exit 0)] (ZP1 o) (Yd7 p o) (Zep w0 fp ρi Kf p o) :=
  Zbf (q := (o.okind == 1)) (by kernel_rfl) (fun hq => (Zbu (lpk [2, 3, 17] [0, 1] (ZsP p o hK (o.okind == 1) ((h.1 hq) (o.okind == 1) rfl))))) (fun hq => (Zag (lpk [2, 3, 12] [0, 1] (ZFb p o hK (h.2 hq)))))
theorem ZCP (p : PlanV) (o : OpV) (Z : Env -> Heap -> Prop) (h : Z (ZP1 o) (Yd7 p o)) : EvC Zc9 Zf5 (Yd9 o) (Yd7 p o) [2, 3, 12, 17] [0, 1] Z := EvC.of (by kernel_rfl) h
def ZpU (p : PlanV) (o : OpV) : Prop := ZpV p o
theorem ZE9 (p : PlanV) (o : OpV) (hK : (Yd3 Kf p o)) (h : ZpU p o) : SemL Try.prog w0 fp ρi 0 34 [Zf5, Zf4, Zdg, (.exit 0)] (Yd9 o) (Yd7 p o) (Zep w0 fp ρi Kf p o) :=
  Zae ZcG (ZCP p o _ (ZFa p o hK h))
def ZpT (p : PlanV) (o : OpV) : Prop := ((o.okind == 5) = true -> (Zwb p o)) /\ ((o.okind == 5) = false -> (ZpU p o))
abbrev ZP0 (x0 : OpV) : Env := [(2, some (.ptr ⟨0, 0, 0, 1⟩ 46)), (3, some (.ptr ⟨1, 0, 0, 1⟩ 5)), (12, some (.int .i64 x0.okind)), (15, some (.bool (x0.okind == 5)))]
theorem ZE8 (p : PlanV) (o : OpV) (hK : (Yd3 Kf p o)) (h : ZpT p o) : SemL Try.prog w0 fp ρi 0 34 [Zkj, (.seq (.seq Zf5 Zf4) Zdg), (.exit 0)] (ZP0 o) (Yd7 p o) (Zep w0 fp ρi Kf p o) :=
  Zbf (q := (o.okind == 5)) (by kernel_rfl) (fun hq => (ZfI (lpk [2, 3] [0, 1] (ZLl p o hK (h.1 hq))))) (fun hq => (Zbu (lpk [2, 3, 12] [0, 1] (Zag (Zag (ZE9 p o hK (h.2 hq)))))))
theorem ZCO (p : PlanV) (o : OpV) (Z : Env -> Heap -> Prop) (h : Z (ZP0 o) (Yd7 p o)) : EvC Zc9 Zkk (Yd9 o) (Yd7 p o) [2, 3, 12, 15] [0, 1] Z := EvC.of (by kernel_rfl) h
def ZpS (p : PlanV) (o : OpV) : Prop := ZpT p o
theorem ZE7 (p : PlanV) (o : OpV) (hK : (Yd3 Kf p o)) (h : ZpS p o) : SemL Try.prog w0 fp ρi 0 34 [Zkk, Zkj, (.seq (.seq Zf5 Zf4) Zdg), (.exit 0)] (Yd9 o) (Yd7 p o) (Zep w0 fp ρi Kf p o) :=
  Zae ZcG (ZCO p o _ (ZE8 p o hK h))
def ZpR (p : PlanV) (o : OpV) : Prop := ((o.okind == 6) = true -> (Zwd p o)) /\ ((o.okind == 6) = false -> (ZpS p o))
abbrev ZPZ (x0 : OpV) : Env := [(2, some (.ptr ⟨0, 0, 0, 1⟩ 46)), (3, some (.ptr ⟨1, 0, 0, 1⟩ 5)), (12, some (.int .i64 x0.okind)), (13, some (.bool (x0.okind == 6)))]
theorem ZE6 (p : PlanV) (o : OpV) (hK : (Yd3 Kf p o)) (h : ZpR p o) : SemL Try.prog w0 fp ρi 0 34 [ZrH, (.seq (.seq Zkk Zkj) (.seq (.seq Zf5 Zf4) Zdg)), (.exit 0)] (ZPZ o) (Yd7 p o) (Zep w0 fp ρi Kf p o) :=
  Zbf (q := (o.okind == 6)) (by kernel_rfl) (fun hq => (ZfI (lpk [] [] (Zag (Zag (ZLn p o hK (h.1 hq))))))) (fun hq => (Zbu (lpk [2, 3, 12] [0, 1] (Zag (Zag (ZE7 p o hK (h.2 hq)))))))
theorem ZCN (p : PlanV) (o : OpV) (Z : Env -> Heap -> Prop) (h : Z (ZPZ o) (Yd7 p o)) : EvC Zc9 ZrI (Yd9 o) (Yd7 p o) [2, 3, 12, 13] [0, 1] Z := EvC.of (by kernel_rfl) h
def ZpQ (p : PlanV) (o : OpV) : Prop := ZpR p o
theorem ZE5 (p : PlanV) (o : OpV) (hK : (Yd3 Kf p o)) (h : ZpQ p o) : SemL Try.prog w0 fp ρi 0 34 [ZrI, ZrH, (.seq (.seq Zkk Zkj) (.seq (.seq Zf5 Zf4) Zdg)), (.exit 0)] (Yd9 o) (Yd7 p o) (Zep w0 fp ρi Kf p o) :=
  Zae ZcG (ZCN p o _ (ZE6 p o hK h))
def ZpP (p : PlanV) (o : OpV) : Prop := ZpQ p o
theorem ZE4 (p : PlanV) (o : OpV) (hK : (Yd3 Kf p o)) (h : ZpP p o) : SemL Try.prog w0 fp ρi 0 34 [Ztr, (.seq (.seq Zih .ret) (.exit 0))] (Yd9 o) (Yd7 p o) (Zmi w0 fp ρi Kf p o) :=
  Zb4 (Zag (Zag (Zag (ZE5 p o hK h))))
def ZpO (p : PlanV) (o : OpV) : Prop := ZpP p o
theorem ZE3 (p : PlanV) (o : OpV) (hK : (Yd3 Kf p o)) (h : ZpO p o) : SemL Try.prog w0 fp ρi 0 34 [Ztq, Zig] (Yd9 o) (Yd7 p o) (Zmj w0 fp ρi Kf p o) :=
  Zb4 (Zag (ZE4 p o hK h))
def ZpN (p : PlanV) (o : OpV) : Prop := ZpO p o
theorem ZE2 (p : PlanV) (o : OpV) (hK : (Yd3 Kf p o)) (h : ZpN p o) : SemL Try.prog w0 fp ρi 0 34 [Ztp, (.seq (.seq Zif (.seq Zhb .ret)) (.exit 0))] (Yd9 o) (Yd7 p o) (Zj1 w0 fp ρi Kf p o) :=
  Zb4 (Zag (ZE3 p o hK h))
def ZpM (p : PlanV) (o : OpV) : Prop := ZpN p o
theorem ZE1 (p : PlanV) (o : OpV) (hK : (Yd3 Kf p o)) (h : ZpM p o) : SemL Try.prog w0 fp ρi 0 34 [Ze7, (.seq ZdL .ret)] (Yd9 o) (Yd7 p o) (fnK ZcM 0 Kf) :=
  Zb4 (Zag (ZE2 p o hK h))
theorem ZCM (p : PlanV) (o : OpV) (Z : Env -> Heap -> Prop) (h : Z (Yd9 o) (Yd7 p o)) : EvC Zc9 ZgH Yd5 (Yd7 p o) [2, 3, 12] [0, 1] Z := EvC.of (by kernel_rfl) h
def ZpL (p : PlanV) (o : OpV) : Prop := ZpM p o
theorem ZE0 (p : PlanV) (o : OpV) (hK : (Yd3 Kf p o)) (h : ZpL p o) : SemL Try.prog w0 fp ρi 0 34 [ZgH, Ze7, (.seq ZdL .ret)] Yd5 (Yd7 p o) (fnK ZcM 0 Kf) :=
  Zae ZcG (ZCM p o _ (ZE1 p o hK h))
def ZpK (p : PlanV) (o : OpV) (v5 : Int) : Prop := ((v5 != 0) = true -> (Zwe p o v5)) /\ ((v5 != 0) = false -> (ZpL p o))
abbrev ZPY (x0 : Int) : Env := [(2, some (.ptr ⟨0, 0, 0, 1⟩ 46)), (3, some (.ptr ⟨1, 0, 0, 1⟩ 5)), (5, some (.int .i64 x0)), (9, some (.bool (x0 != 0)))]
theorem ZEZ (p : PlanV) (o : OpV) (hK : (Yd3 Kf p o)) (v5 : Int) (h : ZpK p o v5) : SemL Try.prog w0 fp ρi 0 34 [Zkl, (.seq (.seq ZgH Ze7) (.seq ZdL .ret))] (ZPY v5) (Yd7 p o) (fnK ZcM 0 Kf) :=
  Zbf (q := (v5 != 0)) (by kernel_rfl) (fun hq => (Zag (lpk [5] [] (ZLo p o hK v5 (h.1 hq))))) (fun hq => (Zbu (lpk [2, 3] [0, 1] (Zag (Zag (ZE0 p o hK (h.2 hq)))))))
abbrev ZNg (x0 : Int) : Env := [(2, some (.ptr ⟨0, 0, 0, 1⟩ 46)), (3, some (.ptr ⟨1, 0, 0, 1⟩ 5)), (5, some (.int .i64 x0))]
theorem ZCL (p : PlanV) (o : OpV) (v5 : Int) (Z : Env -> Heap -> Prop) (h : Z (ZPY v5) (Yd7 p o)) : EvC Zc9 Zkm (ZNg v5) (Yd7 p o) [2, 3, 5, 9] [0, 1] Z := EvC.of (by kernel_rfl) h
def ZpJ (p : PlanV) (o : OpV) (v5 : Int) : Prop := ZpK p o v5
theorem ZEY (p : PlanV) (o : OpV) (hK : (Yd3 Kf p o)) (v5 : Int) (h : ZpJ p o v5) : SemL Try.prog w0 fp ρi 0 34 [Zkm, Zkl, (.seq (.seq ZgH Ze7) (.seq ZdL .ret))] (ZNg v5) (Yd7 p o) (fnK ZcM 0 Kf) :=
  Zae ZcG (ZCL p o v5 _ (ZEZ p o hK v5 h))
theorem ZCK (p : PlanV) (o : OpV) (Z : Env -> Heap -> Prop) (h : (True) /\ Z [(2, some (.ptr ⟨0, 0, 0, 1⟩ 46)), (3, some (.ptr ⟨1, 0, 0, 1⟩ 5)), (5, some (.int .i64 (bif PlanV.right p then 0 else 4 : Int)))] (Yd7 p o)) : EvC Zc9 Znc Yd5 (Yd7 p o) [2, 3, 5] [0, 1] Z := EvC.of (by kernel_rfl) h
def ZpI (p : PlanV) (o : OpV) : Prop := ∀ v5 : Int, v5 = (bif PlanV.right p then 0 else 4 : Int) -> ZpJ p o v5
theorem ZEX (p : PlanV) (o : OpV) (hK : (Yd3 Kf p o)) (h : ZpI p o) : SemL Try.prog w0 fp ρi 0 34 [Znc, (.seq Zkm Zkl), (.seq (.seq ZgH Ze7) (.seq ZdL .ret))] Yd5 (Yd7 p o) (fnK ZcM 0 Kf) :=
  Zae ZcG (ZCK p o _ ⟨True.intro, (Zag (ZEY p o hK (bif PlanV.right p then 0 else 4 : Int) (h (bif PlanV.right p then 0 else 4 : Int) rfl)))⟩)
abbrev ZBa (x0 : PlanV) (x1 : OpV) : Env := [(0, some (.agg (PlanV.cs x0))), (1, some (.agg (OpV.cs x1)))]
theorem ZCJ (p : PlanV) (o : OpV) (Z : Env -> Heap -> Prop) (h : Z Yd5 (Yd7 p o)) : EvC Zc9 ZrK (ZBa p o) Yd2 [2, 3] [0, 1] Z := EvC.of (by kernel_rfl) h
def ZpH (p : PlanV) (o : OpV) : Prop := ZpI p o
theorem ZEW (p : PlanV) (o : OpV) (hK : (Yd3 Kf p o)) (h : ZpH p o) : SemL Try.prog w0 fp ρi 0 34 [ZrK, (.seq (.seq Znc (.seq Zkm Zkl)) (.seq (.seq ZgH Ze7) (.seq ZdL .ret)))] (ZBa p o) Yd2 (fnK ZcM 0 Kf) :=
  Zae ZcG (ZCJ p o _ (Zag (Zag (ZEX p o hK h))))
def ZlW (p : PlanV) (o : OpV) : Prop := ZpH p o
theorem ZBR (p : PlanV) (o : OpV) (hK : (Yd3 Kf p o)) (h : ZlW p o) : SemL Try.prog w0 fp ρi 0 34 [Zyz] (ZBa p o) Yd2 (fnK ZcM 0 Kf) :=
  (Zag (ZEW p o hK h))
end
theorem ZAt (p : PlanV) (o : OpV) (hpre : (OpV.Wf o)) : ZlW p o := by
  unfold ZlW ZpH ZpI ZpJ ZpK ZpL ZpM ZpN ZpO ZpP ZpQ ZpR ZpS ZpT ZpU ZpV ZpW ZpX Zv7 Zv8 Zv9 Zk1 Zwa Zwb ZsF Zwc Zwd Zwe
  obtain ⟨w1, w2, w3, w4, w5⟩ := hpre
  have i1 : I64 1 := by unfold I64; decide
  cases hr : p.right with
  | false =>
    rintro _ rfl
    exact ⟨fun _ => (PlanV.opc4 hr).symm, fun h => by cases h⟩
  | true =>
    rintro _ rfl
    simp only [beq_iff_eq, beq_eq_false_iff_ne, ne_eq]
    refine ⟨fun h => (by cases h), fun _ => ⟨fun h => (PlanV.opc0 hr h).symm, fun h6 => ⟨fun h => ⟨⟨w2, i1⟩, ?_⟩, fun h5 => ?_⟩⟩⟩
    · rintro _ rfl
      exact (PlanV.opcF hr h).symm
    have both : ∀ q : Bool, (q = true -> 1 <= o.okind /\ o.okind <= 4) -> (q = false -> ¬ (1 <= o.okind /\ o.okind <= 6)) -> (q = true -> (I64 o.oat /\ I64 o.on) /\ ∀ v4 : Int, v4 = p.codeOf o.oat o.on -> v4 = p.opCode o) /\ (q = false -> 1 = p.opCode o) := fun q h1 h2 => by
      refine ⟨fun h => ⟨⟨w2, w3⟩, ?_⟩, fun h => (PlanV.opc1 hr (h2 h)).symm⟩
      rintro _ rfl
      exact (PlanV.opcE hr (h1 h).1 (h1 h).2).symm
    refine ⟨fun h => ?_, fun h1 => ⟨fun h => ?_, fun h2 => ⟨fun h => ?_, fun h3 => ?_⟩⟩⟩
    all_goals
      rintro _ rfl
      refine both _ (fun hq => ?_) (fun hq => ?_)
      · have := beq_iff_eq.1 hq; omega
      · have := beq_eq_false_iff_ne.1 hq; omega
theorem Zxo : Sound Try.prog 58 (Zed Zsq) := by
  refine Zbx ZoD ?_
  intro args H K h
  obtain ⟨pre, v, hP, hpre, rfl, hK⟩ := ZbH h
  unfold Zsq at hP
  split at hP
  · obtain ⟨hb, hP⟩ := ZaP hP
    simp only [Bool.and_eq_true] at hb
    obtain ⟨h0, h1⟩ := hb
    obtain rfl := Nat.eq_of_beq_eq_true h0
    obtain rfl := Nat.eq_of_beq_eq_true h1
    cases hP
    exact ⟨rfl, fun w0 fp ρi => ZBR (PlanV.mk _ _ _ _ _ _ _ _ _ _ _ _ _ _ _ _) (OpV.mk _ _ _ _ _) hK (ZAt (PlanV.mk _ _ _ _ _ _ _ _ _ _ _ _ _ _ _ _) (OpV.mk _ _ _ _ _) hpre)⟩
  · cases hP
def ZkL : Zez := fun args => match args with
  | [.agg [.one (.int .i64 p_0), .one (.int .i64 p_1), .one (.int .i64 p_2), .one (.int .i64 p_3), .one (.int .i64 p_4), .one (.int .i64 p_5), .one (.int .u64 p_6), .one (.int .i64 p_7), .one (.int .i64 p_8), .one (.int .i64 p_9), .one (.int .i64 p_10), .one (.int .i64 p_11), .one (.int .i64 p_12), .one (.int .i64 p_13), .ints .u8 p_14_n p_14, .ints .u8 p_15_n p_15], .agg [.one (.int .i64 o_0), .one (.int .i64 o_1), .one (.int .i64 o_2), .one (.int .u64 o_3), .one (.int .u64 o_4)]] => bif Nat.beq p_14_n 16 && Nat.beq p_15_n 16 then some ((OpV.Wf (OpV.mk o_0 o_1 o_2 o_3 o_4)), .int .i64 (PlanV.opCode (PlanV.mk p_0 p_1 p_2 p_3 p_4 p_5 p_6 p_7 p_8 p_9 p_10 p_11 p_12 p_13 p_14 p_15) (OpV.mk o_0 o_1 o_2 o_3 o_4))) else none
  | _ => none
def ZtO : PCon := ⟨62, ZkL⟩
def ZrB : ACode := .reg (.op (some 2) (.box (.tm 0)) (.op (some 3) (.box (.tm 1)) (.op (some 4) (.mov (.cn (.int .i64 0))) .nil)))
def ZmT : ACode := .reg (.op (some 9) (.loadA 46 (.tm 2)) (.op (some 10) (.call 29 [(.tm 9)]) (.op (some 11) (.not (.tm 10)) .nil)))
def ZrA : ACode := .reg (.op (some 4) (.mov (.cn (.int .i64 4))) .nil)
def ZmR : ACode := .cond (.tm 11) (.seq ZrA .ret) .skip
def Zhy : ACode := .reg (.op (some 12) (.fieldAddr (.tm 3) 0 1) (.op (some 13) (.load1 (.tm 12)) (.op (some 14) (.bin .lss (.tm 13) (.cn (.int .i64 1))) (.op (some 15) (.mov (.tm 14)) (.grpJ 15 false (.op (some 16) (.fieldAddr (.tm 3) 0 1) (.op (some 17) (.load1 (.tm 16)) (.op (some 18) (.bin .gtr (.tm 17) (.cn (.int .i64 6))) .nil))) 19 (.tm 18) (.cn (.bool true)) .nil)))))
def Zrz : ACode := .reg (.op (some 4) (.mov (.cn (.int .i64 1))) .nil)
def Zhx : ACode := .cond (.tm 19) (.seq Zrz .ret) .skip
def Zfm : ACode := .reg (.op (some 20) (.fieldAddr (.tm 3) 0 1) (.op (some 21) (.load1 (.tm 20)) (.op (some 22) (.bin .eql (.tm 21) (.cn (.int .i64 6))) .nil)))
def Zry : ACode := .reg (.op (some 4) (.mov (.cn (.int .i64 0))) .nil)
def Zfl : ACode := .cond (.tm 22) (.seq Zry .ret) .skip
def Zdf : ACode := .reg (.op (some 23) (.fieldAddr (.tm 3) 2 1) (.op (some 24) (.load1 (.tm 23)) (.op (some 5) (.mov (.tm 24)) .nil)))
def Zc1 : ACode := .reg (.op (some 25) (.fieldAddr (.tm 3) 0 1) (.op (some 26) (.load1 (.tm 25)) (.op (some 27) (.bin .eql (.tm 26) (.cn (.int .i64 5))) .nil)))
def ZmS : ACode := .reg (.op (some 5) (.mov (.cn (.int .i64 1))) .nil)
def Zc0 : ACode := .cond (.tm 27) ZmS .skip
def Zcv : ACode := .reg (.op (some 29) (.loadA 46 (.tm 2)) (.op (some 30) (.fieldAddr (.tm 3) 1 1) (.op (some 31) (.load1 (.tm 30)) (.op (some 32) (.mov (.tm 5)) (.op (some 33) (.call 79 [(.tm 29), (.tm 31), (.tm 32)]) (.op (some 28) (.mov (.tm 33)) (.op (some 34) (.extract (.tm 28) 0) (.op (some 35) (.extract (.tm 28) 1) (.op (some 36) (.extract (.tm 28) 2) (.op (some 6) (.mov (.tm 34)) (.op (some 7) (.mov (.tm 35)) (.op (some 8) (.mov (.tm 36)) .nil))))))))))))
def Zcl : ACode := .reg (.op (some 37) (.mov (.tm 8)) (.op (some 4) (.mov (.tm 37)) .nil))
def ZoJ : ACode := (.seq ZrB (.seq (.seq ZmT ZmR) (.seq (.seq Zhy Zhx) (.seq (.seq Zfm Zfl) (.seq Zdf (.seq (.seq Zc1 Zc0) (.seq Zcv (.seq Zcl .ret))))))))
def Zbt : Res := .one (.tm 4)
theorem ZkV : ZbD Try.prog 62 2 38 ZoJ Zbt = true := by kernel_rfl
def ZcO : Za8 := ZdW [Zjq, ZFV] []
theorem Zct : Za9 Try.prog ZcO := ZbI ⟨Zl4, ZGU, trivial⟩ trivial
section
variable {w0 : World} {fp : Nat -> Nat -> Prop} {ρi : Rho} {Kf : SVal -> Heap -> Prop}
theorem ZH5 (p : PlanV) (o : OpV) (Z : Env -> Heap -> Prop) (h : Z [(4, some (.int .i64 4))] Yd1) : EvC ZcO ZrA [] Yd1 [4] [] Z := EvC.of (by kernel_rfl) h
theorem ZDJ (p : PlanV) (o : OpV) : RetC Zbt [(4, some (.int .i64 4))] Yd1 (.int .i64 4) := RetC.of (fun Z => by kernel_rfl)
def ZvS (p : PlanV) (o : OpV) : Prop := 4 = (PlanV.opCode p o)
theorem ZK2 (p : PlanV) (o : OpV) (hK : (Yd3 Kf p o)) (h : ZvS p o) : SemL Try.prog w0 fp ρi 0 38 [ZrA, .ret, (.seq (.seq Zhy Zhx) (.seq (.seq Zfm Zfl) (.seq Zdf (.seq (.seq Zc1 Zc0) (.seq Zcv (.seq Zcl .ret))))))] [] Yd1 (fnK Zbt 0 Kf) :=
  Zae Zct (ZH5 p o _ (Zba (R := Zbt) (m := 0) (Kf := Kf) (fun _ _ h => h) (ZDJ p o) (Za3 rfl (by kernel_rfl) (cg1 (fun (z1 : Int) => (.int .i64 z1 : SVal)) h) hK)))
theorem ZH4 (p : PlanV) (o : OpV) (Z : Env -> Heap -> Prop) (h : Z Yd8 Yd1) : EvC ZcO Zrz [] Yd1 [4] [] Z := EvC.of (by kernel_rfl) h
theorem ZDI (p : PlanV) (o : OpV) : RetC Zbt Yd8 Yd1 (.int .i64 1) := RetC.of (fun Z => by kernel_rfl)
def ZvR (p : PlanV) (o : OpV) : Prop := 1 = (PlanV.opCode p o)
theorem ZK1 (p : PlanV) (o : OpV) (hK : (Yd3 Kf p o)) (h : ZvR p o) : SemL Try.prog w0 fp ρi 0 38 [Zrz, .ret, (.seq (.seq Zfm Zfl) (.seq Zdf (.seq (.seq Zc1 Zc0) (.seq Zcv (.seq Zcl .ret)))))] [] Yd1 (fnK Zbt 0 Kf) :=
  Zae Zct (ZH4 p o _ (Zba (R := Zbt) (m := 0) (Kf := Kf) (fun _ _ h => h) (ZDI p o) (Za3 rfl (by kernel_rfl) (cg1 (fun (z1 : Int) => (.int .i64 z1 : SVal)) h) hK)))
theorem ZH3 (p : PlanV) (o : OpV) (Z : Env -> Heap -> Prop) (h : Z Yd4 Yd1) : EvC ZcO Zry [] Yd1 [4] [] Z := EvC.of (by kernel_rfl) h
theorem ZDH (p : PlanV) (o : OpV) : RetC Zbt Yd4 Yd1 (.int .i64 0) := RetC.of (fun Z => by kernel_rfl)
def ZvQ (p : PlanV) (o : OpV) : Prop := 0 = (PlanV.opCode p o)
theorem ZK0 (p : PlanV) (o : OpV) (hK : (Yd3 Kf p o)) (h : ZvQ p o) : SemL Try.prog w0 fp ρi 0 38 [Zry, .ret, (.seq Zdf (.seq (.seq Zc1 Zc0) (.seq Zcv (.seq Zcl .ret))))] [] Yd1 (fnK Zbt 0 Kf) :=
  Zae Zct (ZH3 p o _ (Zba (R := Zbt) (m := 0) (Kf := Kf) (fun _ _ h => h) (ZDH p o) (Za3 rfl (by kernel_rfl) (cg1 (fun (z1 : Int) => (.int .i64 z1 : SVal)) h) hK)))
theorem ZH2 (p : PlanV) (o : OpV) (v8 : Int) (Z : Env -> Heap -> Prop) (h : Z (Yd0 v8) Yd1) : EvC ZcO Zcl [(8, some (.int .i64 v8))] Yd1 [4] [] Z := EvC.of (by kernel_rfl) h
theorem ZDG (p : PlanV) (o : OpV) (v8 : Int) : RetC Zbt (Yd0 v8) Yd1 (.int .i64 v8) := RetC.of (fun Z => by kernel_rfl)
def ZvP (p : PlanV) (o : OpV) (v8 : Int) : Prop := v8 = (PlanV.opCode p o)
theorem ZKZ (p : PlanV) (o : OpV) (hK : (Yd3 Kf p o)) (v8 : Int) (h : ZvP p o v8) : SemL Try.prog w0 fp ρi 0 38 [Zcl, .ret] [(8, some (.int .i64 v8))] Yd1 (fnK Zbt 0 Kf) :=
  Zae Zct (ZH2 p o v8 _ (Zba (R := Zbt) (m := 0) (Kf := Kf) (fun _ _ h => h) (ZDG p o v8) (Za3 rfl (by kernel_rfl) (cg1 (fun (z1 : Int) => (.int .i64 z1 : SVal)) h) hK)))
theorem ZH1 (p : PlanV) (o : OpV) (v5 : Int) (Z : Env -> Heap -> Prop) (h : ((I64 o.oat /\ I64 v5)) /\ Z [(8, some (.int .i64 (PlanV.codeOf p o.oat v5)))] Yd1) : EvC ZcO Zcv (ZNg v5) (Yd7 p o) [8] [] Z := EvC.of (by kernel_rfl) h
def ZsE (p : PlanV) (o : OpV) (v5 : Int) : Prop := ((I64 o.oat /\ I64 v5)) /\ (∀ v8 : Int, v8 = (PlanV.codeOf p o.oat v5) -> ZvP p o v8)
theorem ZBf (p : PlanV) (o : OpV) (hK : (Yd3 Kf p o)) (v5 : Int) (h : ZsE p o v5) : SemL Try.prog w0 fp ρi 0 38 [Zcv, (.seq Zcl .ret)] (ZNg v5) (Yd7 p o) (fnK Zbt 0 Kf) :=
  Zae Zct (ZH1 p o v5 _ ⟨h.1, (Zag (ZKZ p o hK (PlanV.codeOf p o.oat v5) (h.2 (PlanV.codeOf p o.oat v5) rfl)))⟩)
theorem ZH0 (p : PlanV) (o : OpV) (Z : Env -> Heap -> Prop) (h : Z [(2, some (.ptr ⟨0, 0, 0, 1⟩ 46)), (3, some (.ptr ⟨1, 0, 0, 1⟩ 5)), (5, some (.int .i64 1))] (Yd7 p o)) : EvC ZcO ZmS Yd5 (Yd7 p o) [2, 3, 5] [0, 1] Z := EvC.of (by kernel_rfl) h
def ZvO (p : PlanV) (o : OpV) : Prop := ZsE p o 1
theorem ZKY (p : PlanV) (o : OpV) (hK : (Yd3 Kf p o)) (h : ZvO p o) : SemL Try.prog w0 fp ρi 0 38 [ZmS, (.seq Zcv (.seq Zcl .ret))] Yd5 (Yd7 p o) (fnK Zbt 0 Kf) :=
  Zae Zct (ZH0 p o _ (Zag (ZBf p o hK 1 h)))
def ZvN (p : PlanV) (o : OpV) : Prop := ((o.okind == 5) = true -> (ZvO p o)) /\ ((o.okind == 5) = false -> (ZsE p o o.on))
abbrev ZPX (x0 : OpV) : Env := [(2, some (.ptr ⟨0, 0, 0, 1⟩ 46)), (3, some (.ptr ⟨1, 0, 0, 1⟩ 5)), (5, some (.int .i64 x0.on)), (27, some (.bool (x0.okind == 5)))]
theorem ZKX (p : PlanV) (o : OpV) (hK : (Yd3 Kf p o)) (h : ZvN p o) : SemL Try.prog w0 fp ρi 0 38 [Zc0, (.seq Zcv (.seq Zcl .ret))] (ZPX o) (Yd7 p o) (fnK Zbt 0 Kf) :=
  Zbf (q := (o.okind == 5)) (by kernel_rfl) (fun hq => (lpk [2, 3] [0, 1] (ZKY p o hK (h.1 hq)))) (fun hq => (Zbu (lpk [2, 3, 5] [0, 1] (Zag (ZBf p o hK o.on (h.2 hq))))))
abbrev ZOt (x0 : OpV) : Env := [(2, some (.ptr ⟨0, 0, 0, 1⟩ 46)), (3, some (.ptr ⟨1, 0, 0, 1⟩ 5)), (5, some (.int .i64 x0.on))]
theorem ZHZ (p : PlanV) (o : OpV) (Z : Env -> Heap -> Prop) (h : Z (ZPX o) (Yd7 p o)) : EvC ZcO Zc1 (ZOt o) (Yd7 p o) [2, 3, 5, 27] [0, 1] Z := EvC.of (by kernel_rfl) h
def ZvM (p : PlanV) (o : OpV) : Prop := ZvN p o
theorem ZKW (p : PlanV) (o : OpV) (hK : (Yd3 Kf p o)) (h : ZvM p o) : SemL Try.prog w0 fp ρi 0 38 [Zc1, Zc0, (.seq Zcv (.seq Zcl .ret))] (ZOt o) (Yd7 p o) (fnK Zbt 0 Kf) :=
  Zae Zct (ZHZ p o _ (ZKX p o hK h))
theorem ZHY (p : PlanV) (o : OpV) (Z : Env -> Heap -> Prop) (h : Z (ZOt o) (Yd7 p o)) : EvC ZcO Zdf Yd5 (Yd7 p o) [2, 3, 5] [0, 1] Z := EvC.of (by kernel_rfl) h
def ZvL (p : PlanV) (o : OpV) : Prop := ZvM p o
theorem ZKV (p : PlanV) (o : OpV) (hK : (Yd3 Kf p o)) (h : ZvL p o) : SemL Try.prog w0 fp ρi 0 38 [Zdf, (.seq (.seq Zc1 Zc0) (.seq Zcv (.seq Zcl .ret)))] Yd5 (Yd7 p o) (fnK Zbt 0 Kf) :=
  Zae Zct (ZHY p o _ (Zag (Zag (ZKW p o hK h))))
def ZvK (p : PlanV) (o : OpV) : Prop := ((o.okind == 6) = true -> (ZvQ p o)) /\ ((o.okind == 6) = false -> (ZvL p o))
abbrev ZPW (x0 : OpV) : Env := [(2, some (.ptr ⟨0, 0, 0, 1⟩ 46)), (3, some (.ptr ⟨1, 0, 0, 1⟩ 5)), (22, some (.bool (x0.okind == 6)))]
theorem ZKU (p : PlanV) (o : OpV) (hK : (Yd3 Kf p o)) (h : ZvK p o) : SemL Try.prog w0 fp ρi 0 38 [Zfl, (.seq Zdf (.seq (.seq Zc1 Zc0) (.seq Zcv (.seq Zcl .ret))))] (ZPW o) (Yd7 p o) (fnK Zbt 0 Kf) :=
  Zbf (q := (o.okind == 6)) (by kernel_rfl) (fun hq => (Zag (lpk [] [] (ZK0 p o hK (h.1 hq))))) (fun hq => (Zbu (lpk [2, 3] [0, 1] (Zag (ZKV p o hK (h.2 hq))))))
theorem ZCz (p : PlanV) (o : OpV) (Z : Env -> Heap -> Prop) (h : Z (ZPW o) (Yd7 p o)) : EvC ZcO Zfm Yd5 (Yd7 p o) [2, 3, 22] [0, 1] Z := EvC.of (by kernel_rfl) h
def Zpt (p : PlanV) (o : OpV) : Prop := ZvK p o
theorem ZEI (p : PlanV) (o : OpV) (hK : (Yd3 Kf p o)) (h : Zpt p o) : SemL Try.prog w0 fp ρi 0 38 [Zfm, Zfl, (.seq Zdf (.seq (.seq Zc1 Zc0) (.seq Zcv (.seq Zcl .ret))))] Yd5 (Yd7 p o) (fnK Zbt 0 Kf) :=
  Zae Zct (ZCz p o _ (ZKU p o hK h))
def Zps (p : PlanV) (o : OpV) : Prop := (((decide (o.okind < 1)) || (decide (6 < o.okind))) = true -> (ZvR p o)) /\ (((decide (o.okind < 1)) || (decide (6 < o.okind))) = false -> (Zpt p o))
theorem ZEH (p : PlanV) (o : OpV) (hK : (Yd3 Kf p o)) (h : Zps p o) : SemL Try.prog w0 fp ρi 0 38 [Zhx, (.seq (.seq Zfm Zfl) (.seq Zdf (.seq (.seq Zc1 Zc0) (.seq Zcv (.seq Zcl .ret)))))] [(2, some (.ptr ⟨0, 0, 0, 1⟩ 46)), (3, some (.ptr ⟨1, 0, 0, 1⟩ 5)), (19, some (.bool ((decide (o.okind < 1)) || (decide (6 < o.okind)))))] (Yd7 p o) (fnK Zbt 0 Kf) :=
  Zbf (q := ((decide (o.okind < 1)) || (decide (6 < o.okind)))) (by kernel_rfl) (fun hq => (Zag (lpk [] [] (ZK1 p o hK (h.1 hq))))) (fun hq => (Zbu (lpk [2, 3] [0, 1] (Zag (Zag (ZEI p o hK (h.2 hq)))))))
theorem ZCy (p : PlanV) (o : OpV) (Z : Env -> Heap -> Prop) (h : ∃ qq : Bool, ((decide (o.okind < 1)) = false -> (ZaK (Yd7 p o) (Yd7 p o) [(0, some ⟨true, (PlanV.cs p), 0⟩), (1, some ⟨true, (OpV.cs o), 0⟩)]) /\ (decide (6 < o.okind)) = qq) /\ ((decide (o.okind < 1)) = true -> true = qq) /\ Z [(2, some (.ptr ⟨0, 0, 0, 1⟩ 46)), (3, some (.ptr ⟨1, 0, 0, 1⟩ 5)), (19, some (.bool qq))] (Yd7 p o)) : EvC ZcO Zhy Yd5 (Yd7 p o) [2, 3, 19] [0, 1] Z := EvC.of (by kernel_rfl) h
def Zpr (p : PlanV) (o : OpV) : Prop := Zps p o
theorem ZEG (p : PlanV) (o : OpV) (hK : (Yd3 Kf p o)) (h : Zpr p o) : SemL Try.prog w0 fp ρi 0 38 [Zhy, Zhx, (.seq (.seq Zfm Zfl) (.seq Zdf (.seq (.seq Zc1 Zc0) (.seq Zcv (.seq Zcl .ret)))))] Yd5 (Yd7 p o) (fnK Zbt 0 Kf) :=
  Zae Zct (ZCy p o _ ⟨((decide (o.okind < 1)) || (decide (6 < o.okind))), fun hc_qq => ⟨(ZaT _), (qo1 hc_qq)⟩, fun hc_qq => qo2 hc_qq, (ZEH p o hK h)⟩)
def Zpq (p : PlanV) (o : OpV) : Prop := ((!(PlanV.right p)) = true -> (ZvS p o)) /\ ((!(PlanV.right p)) = false -> (Zpr p o))
abbrev ZPV (x0 : PlanV) : Env := [(2, some (.ptr ⟨0, 0, 0, 1⟩ 46)), (3, some (.ptr ⟨1, 0, 0, 1⟩ 5)), (11, some (.bool (!(PlanV.right x0))))]
theorem ZEF (p : PlanV) (o : OpV) (hK : (Yd3 Kf p o)) (h : Zpq p o) : SemL Try.prog w0 fp ρi 0 38 [ZmR, (.seq (.seq Zhy Zhx) (.seq (.seq Zfm Zfl) (.seq Zdf (.seq (.seq Zc1 Zc0) (.seq Zcv (.seq Zcl .ret))))))] (ZPV p) (Yd7 p o) (fnK Zbt 0 Kf) :=
  Zbf (q := (!(PlanV.right p))) (by kernel_rfl) (fun hq => (Zag (lpk [] [] (ZK2 p o hK (h.1 hq))))) (fun hq => (Zbu (lpk [2, 3] [0, 1] (Zag (Zag (ZEG p o hK (h.2 hq)))))))
theorem ZCx (p : PlanV) (o : OpV) (Z : Env -> Heap -> Prop) (h : (True) /\ Z (ZPV p) (Yd7 p o)) : EvC ZcO ZmT Yd5 (Yd7 p o) [2, 3, 11] [0, 1] Z := EvC.of (by kernel_rfl) h
def Zpp (p : PlanV) (o : OpV) : Prop := Zpq p o
theorem ZEE (p : PlanV) (o : OpV) (hK : (Yd3 Kf p o)) (h : Zpp p o) : SemL Try.prog w0 fp ρi 0 38 [ZmT, ZmR, (.seq (.seq Zhy Zhx) (.seq (.seq Zfm Zfl) (.seq Zdf (.seq (.seq Zc1 Zc0) (.seq Zcv (.seq Zcl .ret))))))] Yd5 (Yd7 p o) (fnK Zbt 0 Kf) :=
  Zae Zct (ZCx p o _ ⟨True.intro, (ZEF p o hK h)⟩)
theorem ZCw (p : PlanV) (o : OpV) (Z : Env -> Heap -> Prop) (h : Z Yd5 (Yd7 p o)) : EvC ZcO ZrB (ZBa p o) Yd2 [2, 3] [0, 1] Z := EvC.of (by kernel_rfl) h
def Zpo (p : PlanV) (o : OpV) : Prop := Zpp p o
theorem ZED (p : PlanV) (o : OpV) (hK : (Yd3 Kf p o)) (h : Zpo p o) : SemL Try.prog w0 fp ρi 0 38 [ZrB, (.seq (.seq ZmT ZmR) (.seq (.seq Zhy Zhx) (.seq (.seq Zfm Zfl) (.seq Zdf (.seq (.seq Zc1 Zc0) (.seq Zcv (.seq Zcl .ret)))))))] (ZBa p o) Yd2 (fnK Zbt 0 Kf) :=
  Zae Zct (ZCw p o _ (Zag (Zag (ZEE p o hK h))))
def Ziz (p : PlanV) (o : OpV) : Prop := Zpo p o
theorem Zuj (p : PlanV) (o : OpV) (hK : (Yd3 Kf p o)) (h : Ziz p o) : SemL Try.prog w0 fp ρi 0 38 [ZoJ] (ZBa p o) Yd2 (fnK Zbt 0 Kf) :=
  (Zag (ZED p o hK h))
end
theorem ZtS (p : PlanV) (o : OpV) (hpre : (OpV.Wf o)) : Ziz p o := by
  unfold Ziz Zpo Zpp Zpq Zpr Zps Zpt ZvK ZvL ZvM ZvN ZvO ZsE ZvP ZvQ ZvR ZvS
  obtain ⟨w1, w2, w3, w4, w5⟩ := hpre
  have i1 : I64 1 := by unfold I64; decide
  refine ⟨fun h => (PlanV.opc4 (ZfR h)).symm, fun h => ?_⟩
  have hr := Zfw h
  refine ⟨fun h => ?_, fun h => ?_⟩
  · simp only [Bool.or_eq_true, decide_eq_true_eq] at h
    exact (PlanV.opc1 hr (by omega)).symm
  simp only [Bool.or_eq_false_iff, decide_eq_false_iff_not] at h
  simp only [beq_iff_eq, beq_eq_false_iff_ne, ne_eq]
  refine ⟨fun h6 => (PlanV.opc0 hr h6).symm, fun h6 => ⟨fun h5 => ⟨⟨w2, i1⟩, ?_⟩, fun h5 => ⟨⟨w2, w3⟩, ?_⟩⟩⟩
  · rintro _ rfl
    exact (PlanV.opcF hr h5).symm
  · rintro _ rfl
    exact (PlanV.opcE hr (by omega) (by omega)).symm
theorem Zxr : Sound Try.prog 62 (Zed ZkL) := by
  refine Zbx ZkV ?_
  intro args H K h
  obtain ⟨pre, v, hP, hpre, rfl, hK⟩ := ZbH h
  unfold ZkL at hP
  split at hP
  · obtain ⟨hb, hP⟩ := ZaP hP
    simp only [Bool.and_eq_true] at hb
    obtain ⟨h0, h1⟩ := hb
    obtain rfl := Nat.eq_of_beq_eq_true h0
    obtain rfl := Nat.eq_of_beq_eq_true h1
    cases hP
    exact ⟨rfl, fun w0 fp ρi => Zuj (PlanV.mk _ _ _ _ _ _ _ _ _ _ _ _ _ _ _ _) (OpV.mk _ _ _ _ _) hK (ZtS (PlanV.mk _ _ _ _ _ _ _ _ _ _ _ _ _ _ _ _) (OpV.mk _ _ _ _ _) hpre)⟩
  · cases hP
def Zy4 : Zez := fun args => match args with
  | [.agg [.one (.int .i64 p_0), .one (.int .i64 p_1), .one (.int .i64 p_2), .one (.int .i64 p_3), .one (.int .i64 p_4), .one (.int .i64 p_5), .one (.int .u64 p_6), .one (.int .i64 p_7), .one (.int .i64 p_8), .one (.int .i64 p_9), .one (.int .i64 p_10), .one (.int .i64 p_11), .one (.int .i64 p_12), .one (.int .i64 p_13), .ints .u8 p_14_n p_14, .ints .u8 p_15_n p_15], .agg [.one (.int .i64 o_0), .one (.int .i64 o_1), .one (.int .i64 o_2), .one (.int .u64 o_3), .one (.int .u64 o_4)]] => bif Nat.beq p_14_n 16 && Nat.beq p_15_n 16 then some ((OpV.Wf (OpV.mk o_0 o_1 o_2 o_3 o_4)), .tuple [.int .i64 (PlanV.opLine (PlanV.mk p_0 p_1 p_2 p_3 p_4 p_5 p_6 p_7 p_8 p_9 p_10 p_11 p_12 p_13 p_14 p_15) (OpV.mk o_0 o_1 o_2 o_3 o_4)), .bool (PlanV.opB (PlanV.mk p_0 p_1 p_2 p_3 p_4 p_5 p_6 p_7 p_8 p_9 p_10 p_11 p_12 p_13 p_14 p_15) (OpV.mk o_0 o_1 o_2 o_3 o_4))]) else none
  | _ => none
def ZFT : PCon := ⟨59, Zy4⟩
def ZrG : ACode := .reg (.op (some 2) (.box (.tm 0)) (.op (some 3) (.box (.tm 1)) (.op (some 4) (.mov (.cn (.int .i64 0))) (.op (some 5) (.mov (.cn (.bool false))) .nil))))
def Zm6 : ACode := .reg (.op (some 6) (.loadA 46 (.tm 2)) (.op (some 7) (.loadA 5 (.tm 3)) (.op (some 8) (.call 58 [(.tm 6), (.tm 7)]) (.op (some 9) (.bin .neq (.tm 8) (.cn (.int .i64 0))) (.op (some 10) (.mov (.tm 9)) (.grpJ 10 false (.op (some 11) (.fieldAddr (.tm 3) 0 1) (.op (some 12) (.load1 (.tm 11)) (.op (some 13) (.bin .eql (.tm 12) (.cn (.int .i64 6))) .nil))) 14 (.tm 13) (.cn (.bool true)) .nil))))))
def ZrF : ACode := .reg (.op (some 4) (.mov (.cn (.int .i64 0))) (.op (some 5) (.mov (.cn (.bool false))) .nil))
def Zm5 : ACode := .cond (.tm 14) (.seq ZrF .ret) .skip
def ZhA : ACode := .reg (.op (some 15) (.fieldAddr (.tm 3) 1 1) (.op (some 16) (.load1 (.tm 15)) (.op (some 17) (.bin .quo (.tm 16) (.cn (.int .i64 32))) (.op (some 4) (.mov (.tm 17)) (.op (some 5) (.mov (.cn (.bool true))) .nil)))))
def ZBw : ACode := (.seq ZrG (.seq (.seq Zm6 Zm5) (.seq ZhA .ret)))
def ZgN : Res := .many [.tm 4, .tm 5]
theorem Zsd : ZbD Try.prog 59 2 18 ZBw ZgN = true := by kernel_rfl
def ZoV : Za8 := ZdW [ZsT] []
theorem Zmo : Za9 Try.prog ZoV := ZbI ⟨Zxo, trivial⟩ trivial
section
variable {w0 : World} {fp : Nat -> Nat -> Prop} {ρi : Rho} {Kf : SVal -> Heap -> Prop}
abbrev ZPU : Env := [(4, some (.int .i64 0)), (5, some (.bool false))]
theorem ZIh (p : PlanV) (o : OpV) (Z : Env -> Heap -> Prop) (h : Z ZPU Yd1) : EvC ZoV ZrF [] Yd1 [4, 5] [] Z := EvC.of (by kernel_rfl) h
theorem ZDP (p : PlanV) (o : OpV) : RetC ZgN ZPU Yd1 (.tuple [.int .i64 0, .bool false]) := RetC.of (fun Z => by kernel_rfl)
def Zv6 (p : PlanV) (o : OpV) : Prop := (0 = (PlanV.opLine p o)) /\ (false = (PlanV.opB p o))
abbrev ZGE (x0 : SVal -> Heap -> Prop) (x1 : PlanV) (x2 : OpV) : Prop := x0 (.tuple [.int .i64 (PlanV.opLine x1 x2), .bool (PlanV.opB x1 x2)]) ⟨0, []⟩
theorem ZLg (p : PlanV) (o : OpV) (hK : (ZGE Kf p o)) (h : Zv6 p o) : SemL Try.prog w0 fp ρi 0 18 [ZrF, .ret, (.seq ZhA .ret)] [] Yd1 (fnK ZgN 0 Kf) :=
  Zae Zmo (ZIh p o _ (Zba (R := ZgN) (m := 0) (Kf := Kf) (fun _ _ h => h) (ZDP p o) (Za3 rfl (by kernel_rfl) (cg2 (fun (z1 : Int) (z2 : Bool) => (.tuple [.int .i64 z1, .bool z2] : SVal)) h.1 h.2) hK)))
abbrev ZPT (x0 : OpV) : Env := [(4, some (.int .i64 (IntKind.i64.wrap (Int.tdiv x0.oat 32)))), (5, some (.bool true))]
abbrev ZNf (x0 : OpV) : Heap := ⟨2, [(1, some ⟨true, (OpV.cs x0), 0⟩)]⟩
theorem ZIg (p : PlanV) (o : OpV) (Z : Env -> Heap -> Prop) (h : (((32 : Int) ≠ 0)) /\ Z (ZPT o) Yd1) : EvC ZoV ZhA [(3, some (.ptr ⟨1, 0, 0, 1⟩ 5))] (ZNf o) [4, 5] [] Z := EvC.of (by kernel_rfl) h
theorem ZDO (p : PlanV) (o : OpV) : RetC ZgN (ZPT o) Yd1 (.tuple [.int .i64 (IntKind.i64.wrap (Int.tdiv o.oat 32)), .bool true]) := RetC.of (fun Z => by kernel_rfl)
def Zv5 (p : PlanV) (o : OpV) : Prop := ((IntKind.i64.wrap (Int.tdiv o.oat 32)) = (PlanV.opLine p o)) /\ (true = (PlanV.opB p o))
theorem ZLf (p : PlanV) (o : OpV) (hK : (ZGE Kf p o)) (h : Zv5 p o) : SemL Try.prog w0 fp ρi 0 18 [ZhA, .ret] [(3, some (.ptr ⟨1, 0, 0, 1⟩ 5))] (ZNf o) (fnK ZgN 0 Kf) :=
  Zae Zmo (ZIg p o _ ⟨(by decide), (Zba (R := ZgN) (m := 0) (Kf := Kf) (fun _ _ h => h) (ZDO p o) (Za3 rfl (by kernel_rfl) (cg2 (fun (z1 : Int) (z2 : Bool) => (.tuple [.int .i64 z1, .bool z2] : SVal)) h.1 h.2) hK))⟩)
def Zv4 (p : PlanV) (o : OpV) : Prop := ((((PlanV.opCode p o) != 0) || (o.okind == 6)) = true -> (Zv6 p o)) /\ ((((PlanV.opCode p o) != 0) || (o.okind == 6)) = false -> (Zv5 p o))
theorem ZLe (p : PlanV) (o : OpV) (hK : (ZGE Kf p o)) (h : Zv4 p o) : SemL Try.prog w0 fp ρi 0 18 [Zm5, (.seq ZhA .ret)] [(3, some (.ptr ⟨1, 0, 0, 1⟩ 5)), (14, some (.bool (((PlanV.opCode p o) != 0) || (o.okind == 6))))] (ZNf o) (fnK ZgN 0 Kf) :=
  Zbf (q := (((PlanV.opCode p o) != 0) || (o.okind == 6))) (by kernel_rfl) (fun hq => (Zag (lpk [] [] (ZLg p o hK (h.1 hq))))) (fun hq => (Zbu (lpk [3] [1] (Zag (ZLf p o hK (h.2 hq))))))
theorem ZIf (p : PlanV) (o : OpV) (Z : Env -> Heap -> Prop) (h : ((OpV.Wf o)) /\ ∃ qq : Bool, (((PlanV.opCode p o) != 0) = false -> (ZaK (Yd7 p o) (Yd7 p o) [(0, some ⟨true, (PlanV.cs p), 0⟩), (1, some ⟨true, (OpV.cs o), 0⟩)]) /\ (o.okind == 6) = qq) /\ (((PlanV.opCode p o) != 0) = true -> true = qq) /\ Z [(3, some (.ptr ⟨1, 0, 0, 1⟩ 5)), (14, some (.bool qq))] (ZNf o)) : EvC ZoV Zm6 Yd5 (Yd7 p o) [3, 14] [1] Z := EvC.of (by kernel_rfl) h
def Zv3 (p : PlanV) (o : OpV) : Prop := ((OpV.Wf o)) /\ (Zv4 p o)
theorem ZLd (p : PlanV) (o : OpV) (hK : (ZGE Kf p o)) (h : Zv3 p o) : SemL Try.prog w0 fp ρi 0 18 [Zm6, Zm5, (.seq ZhA .ret)] Yd5 (Yd7 p o) (fnK ZgN 0 Kf) :=
  Zae Zmo (ZIf p o _ ⟨h.1, ⟨(((PlanV.opCode p o) != 0) || (o.okind == 6)), fun hc_qq => ⟨(ZaT _), (qo1 hc_qq)⟩, fun hc_qq => qo2 hc_qq, (ZLe p o hK h.2)⟩⟩)
theorem ZIe (p : PlanV) (o : OpV) (Z : Env -> Heap -> Prop) (h : Z Yd5 (Yd7 p o)) : EvC ZoV ZrG (ZBa p o) Yd2 [2, 3] [0, 1] Z := EvC.of (by kernel_rfl) h
def Zv2 (p : PlanV) (o : OpV) : Prop := Zv3 p o
theorem ZLc (p : PlanV) (o : OpV) (hK : (ZGE Kf p o)) (h : Zv2 p o) : SemL Try.prog w0 fp ρi 0 18 [ZrG, (.seq (.seq Zm6 Zm5) (.seq ZhA .ret))] (ZBa p o) Yd2 (fnK ZgN 0 Kf) :=
  Zae Zmo (ZIe p o _ (Zag (Zag (ZLd p o hK h))))
def ZqE (p : PlanV) (o : OpV) : Prop := Zv2 p o
theorem ZGI (p : PlanV) (o : OpV) (hK : (ZGE Kf p o)) (h : ZqE p o) : SemL Try.prog w0 fp ρi 0 18 [ZBw] (ZBa p o) Yd2 (fnK ZgN 0 Kf) :=
  (Zag (ZLc p o hK h))
end
theorem ZFY (p : PlanV) (o : OpV) (hpre : (OpV.Wf o)) : ZqE p o := by
  unfold ZqE Zv2 Zv3 Zv4 Zv5 Zv6
  refine ⟨hpre, ?_⟩
  have hc : (p.opCode o != 0 || o.okind == 6) = !(p.opB o) := by
    unfold PlanV.opB
    rw [show (p.opCode o != 0) = !(p.opCode o == 0) from rfl, Bool.not_and, Bool.not_not]
  rw [hc]
  refine ⟨fun h => ?_, fun h => ?_⟩
  · have h := ZfR h
    unfold PlanV.opLine
    rw [h]; exact ⟨rfl, rfl⟩
  · have h := Zfw h
    have hb := h
    unfold PlanV.opB at hb
    simp only [Bool.and_eq_true, beq_iff_eq, Bool.not_eq_true', beq_eq_false_iff_ne] at hb
    have hat := PlanV.opB_at hb.1 hb.2
    have ht : p.tags = p.all * 32 := rfl
    have ha := _root_.Go.Sx.PlanV.all_le p
    unfold PlanV.opLine
    rw [h, if_pos rfl, Int.tdiv_eq_ediv_of_nonneg hat.1, Zhl]
    exact ⟨by omega, rfl⟩
theorem ZGR : Sound Try.prog 59 (Zed Zy4) := by
  refine Zbx Zsd ?_
  intro args H K h
  obtain ⟨pre, v, hP, hpre, rfl, hK⟩ := ZbH h
  unfold Zy4 at hP
  split at hP
  · obtain ⟨hb, hP⟩ := ZaP hP
    simp only [Bool.and_eq_true] at hb
    obtain ⟨h0, h1⟩ := hb
    obtain rfl := Nat.eq_of_beq_eq_true h0
    obtain rfl := Nat.eq_of_beq_eq_true h1
    cases hP
    exact ⟨rfl, fun w0 fp ρi => ZGI (PlanV.mk _ _ _ _ _ _ _ _ _ _ _ _ _ _ _ _) (OpV.mk _ _ _ _ _) hK (ZFY (PlanV.mk _ _ _ _ _ _ _ _ _ _ _ _ _ _ _ _) (OpV.mk _ _ _ _ _) hpre)⟩
  · cases hP
end Go.Proofs.Ytinjdimejijabaa
